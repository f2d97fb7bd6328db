/- A part: contracts and laws. -/
import Derived.Test.YtmaoneengdafhaaGreatDoorPartA
import Derived.LoopNIn
import Derived.RangeFuncRecord
import Derived.RowKit3
import Derived.ProofKit
import Derived.OpenShut
import Derived.Maps.RangeWalk
import Derived.Orders
import Derived.RowKit
import Derived.Sort.Grow
import Derived.ChangeArms
import Derived.ReadAgain
set_option linter.unusedVariables false
set_option linter.unusedSectionVars false
set_option linter.defProp false
noncomputable section
open Go renaming Act->bw,Addr->bg,Code->bV,DataW->cq,Deferred->eA,Exit->dr,Field->wx,Func->iv,FuncId->jD,IntKind->be,MemPlace->eB,Oper->am,Operand->au,Program->ah,TypeId->ag,Value->ad,World->ar,undef->ak
namespace Go.Eng
open Go
section
variable [ai]
inductive X where
 |normal|exit (id:Nat)|ret
def X.to:X->dr
 |.normal=>.normal
 |.exit id=>.exit id
 |.ret=>.ret
def X.jump:X->Option bV
 |.normal=>none
 |.exit id=>some (.exit id)
 |.ret=>some .ret
def mP(body:ai.Fr->AW->Option (X×ai.Fr×AW)):Nat->ai.Fr->AW->Option (X×ai.Fr×AW)
 |0,_,_=>none
 |n+1,R,W=>match body R W with
  |some (.normal,R',W')=>mP body n R' W'
  |r=>r
def cy(P:ah)(call:Callee)(top:Bool)(nt:Nat):bV->ai.Fr->AW->Option (X×ai.Fr×AW)
 |.skip,R,W=>some (.normal,R,W)
 |.label _,R,W=>some (.normal,R,W)
 |.region id ops Gh,R,W=>
  match Gh with
  |false=>(tL P call ops ops.toList R W).map λr=>(.normal,r.1,r.2)
  |true=>match ai.D id ops with
   |none=>(tL P call ops ops.toList R W).map λr=>(.normal,r.1,r.2)
   |some pl=>(mJ P call ops pl R W).map λr=>(.normal,r.1,r.2)
 |.seq a b,R,W=>match cy P call top nt a R W with
  |some (.normal,R',W')=>cy P call top nt b R' W'
  |r=>r
 |.cond c a b,R,W=>match aE R c with
  |.bool true=>cy P call top nt a R W
  |.bool false=>cy P call top nt b R W
  |_=>none
 |.block id b,R,W=>match cy P call top nt b R W with
  |some (.exit i,R',W')=>if i=id then some (.normal,R',W')else some (.exit i,R',W')
  |r=>r
 |.loop b,R,W=>mP (cy P call top nt b) 1000000 R W
 |.rangeFunc f ps aB4 bd,R,W=>
  match top with
  |false=>none
  |true=>match aE R f with
   |.func (.func i) fs cs=>W.new (.loop .ready none R nt ps aB4 bd) λl W1=>
    match call (.func (.func i) fs cs) [.func (.yield l) #[] #[]] W1 with
    |some (_,W2)=>match W2.get l with
     |some (.loop st qL _ _ _ _ _)=>(match st with
      |.busy=>none
      |_=>match qL with
       |none=>some (.normal,R,W2.kill l)
       |some (.exit i)=>some (.exit i,R,W2.kill l)
       |some .ret=>some (.ret,R,W2.kill l)
       |_=>none)
     |_=>none
    |none=>none
   |_=>none
 |.exit id,R,W=>some (.exit id,R,W)
 |.ret,R,W=>some (.ret,R,W)
 |.goto _,_,_=>none
 |.scope _,_,_=>none
 |.refuse _,_,_=>none
def uz(n0:Nat)(σ:dx)(w:ar):List eA->Prop
 |[]=>True
 |d::ds=>(∃r,d={target:=.collected r,args:=#[]}/\n0<=r/\w.heap[r]? =some (.deferred (some []))/\(∀b g,σ b=some g->g.B≠r)/\
  ∀d'∈ds,∀r',d'.target=.collected r'->r'≠r)/\uz n0 σ w ds
section
variable {P:ah} {σ σ':dx} {W W':AW} {w w':ar} {n0:Nat}
def uz.ext(he:fR σ W w σ' W' w'):∀{ds:List eA},uz n0 σ w ds->uz n0 σ' w' ds:=by
 intro ds;induction ds with
 |nil=>intro _;trivial
 |cons d ds ih=>
  rintro⟨⟨r,h1,h2,h3,h4,h5⟩,hds⟩;have hr:r<w.heap.size:=(eS.1 h3).1;have hm:¬Mut σ W r:=by rintro⟨b,g,hg,e,_⟩;exact h4 b g hg e
  refine⟨⟨r,h1,h2,(he.keep r hr hm).trans h3,λb g hg e=>?_,h5⟩,ih hds⟩;rcases he.grow b g hg (by omega)with h|h
  ·exact h4 b g h e
  ·rw[e]at h;exact hm h
def bI.push(h:bI σ W w.heap)(x:Obj)(hx:∀c t fr,x≠ .cells c t fr):bI σ W (w.heap.push x)/\fR σ W w σ W {w with heap:=w.heap.push x}:=by
 have gE:∀B,B<w.heap.size->(w.heap.push x)[B]? =w.heap[B]? :=λB hB=>by rw[x8];rw[bL]
 refine⟨⟨h.free,λb g hg=>?_,λb o g hb hg=>(h.obj b o g hb hg).same (gE _ (h.qP b g hg).2),h.vN⟩,
  ⟨.refl _,λ_ _ h=>h,by simp,rfl,rfl,rfl,λB hB _=>gE B hB,λ_ _ h k=>⟨h,k⟩,λb g hg _=>.inl hg⟩⟩
 ·have:=h.qP b g hg;simp;omega
def bI.other(h:bI σ W w.heap){r:Nat}(hr:∀b g,σ b=some g->g.B≠r)(x:Obj):bI σ W (w.heap.setIfInBounds r x):=by
 refine⟨h.free,λb g hg=>?_,λb o g hb hg=>(h.obj b o g hb hg).same ?_,h.vN⟩
 ·have:=h.qP b g hg;simpa using this
 ·rw[F1 (bh (hr b g hg))]
def NO(ops:Array am):(List.range ops.size).filterMap (λi=>ops[i]?)=ops.toList:=by
 have h1:(List.range ops.size).filterMap (λi=>ops[i]?)=(List.range ops.size).map λi=>ops.getD i default:=by
  have key:∀l:List Nat,(∀i∈l,i<ops.size)->l.filterMap (λi=>ops[i]?)=l.map λi=>ops.getD i default:=by
   intro l;induction l with
   |nil=>intro _;rfl
   |cons i l ih=>intro h;have hi:i<ops.size:=h i (by simp);simp only[List.filterMap_cons,mc,jN hi];rw[ih λj hj=>h j (by simp[hj])];simp[hi]
  exact key _ λi hi=>by simpa using hi
 rw[h1];refine oi λi=>?_
 simp only[ly,xR];by_cases hi:i<ops.size
 ·rw[List.getElem?_range hi];simp[hi]
 ·rw[kn (by simpa using hi)];simp[hi]
def akF{ng:List Nat}{nt:Nat}{call:Callee}(hc:cl P ng call){ops:Array am}(mD:∀(i:Nat) (o:am),ops[i]? =some o->oK nt ng o=true){ro:Option Nat}{Q:dr->bw->ar->Prop}{Rf:ai.Fr}{Wf:AW}:
 ∀(l:List Nat) (σ:dx) (R:ai.Fr) (W:AW) (a:bw) (w:ar),(∀i∈l,i<ops.size)->bI σ W w.heap->BM σ ng->fy nt σ R a.tmps->
  tL P call ops (l.filterMap λi=>ops[i]?) R W=some (Rf,Wf)->
  (∀σ' a' w',fy nt σ' Rf a'.tmps->a'.defers=a.defers->bI σ' Wf w'.heap->fR σ W w σ' Wf w'->Q .normal a' w')->wpOpsIn (FE ro) 0 P ops Q l a w:=by
 intro l;induction l with
 |nil=>intro σ R W a w _ hW hG hR h hQ;injection h with h;injection h with h1 h2;subst h1;subst h2;exact hQ σ a w hR rfl hW (.refl _ _ _)
 |cons i l ih=>
  intro σ R W a w hl hW hG hR h hQ;have hi:i<ops.size:=hl i (by simp);have hg:ops[i]? =some ops[i]:=jN hi;simp only[List.filterMap_cons,hg,tL]at h;split at h;case h_2=>cases h
  rename_i R' W' hs;have Hz:∀t∈(ops[i]).looksAt ops,VR σ (du R t) (a.tmps.getD t ak):=λt ht=>hR.2 t (Qr mD hg ht)
  have hρ:=xQ hG (mD _ _ hg) Hz;have hwe:=Gq Hz;simp only[wpOpsIn,hg,hwe];unfold nK at hs;split at hs
  ·rename_i hw;rw[an hw];split at hs
   ·rename_i v W1 vO;injection hs with hs;injection hs with LP Du;subst LP;subst Du;refine OQ hc hW hG vO hρ λσ' v' w' hv hw' he=>?_
    exact ih σ' _ _ _ w' (λj hj=>hl j (by simp[hj])) hw' (hG.mono he.sub) ((hR.mono he.sub).put _ hv) h
     (λOg a' w'' k1 k2 k3 k4=>hQ Og a' w'' k1 (by rw[k2,tO]) k3 (he.trans k4))
   ·cases hs
  ·rename_i hw;rw[aq hw];injection hs with hs;injection hs with LP Du;subst LP;subst Du
   exact⟨λf _=>trivial,ih σ _ _ _ w (λj hj=>hl j (by simp[hj])) hW hG (hR.put _ .undef) h
    (λOg a' w'' k1 k2 k3 k4=>hQ Og a' w'' k1 (by rw[k2,tO]) k3 k4)⟩
end
end
section
variable [ai]
section
variable {P:ah}
def CH{x:X}{R':ai.Fr}{W':AW}{y:Option (ai.Fr×AW)}(h:(y.map λr=>((X.normal,r.1,r.2):X×ai.Fr×AW))=some (x,R',W')):x=.normal/\y=some (R',W'):=by
 cases y with
 |none=>cases h
 |some r=>simp only[dq,iW,DL]at h;obtain⟨h1,h2,h3⟩:=h;exact⟨h1.symm,by rw[<-h2,<-h3]⟩
def aiA(P:ah)(ng:List Nat)(nt n0:Nat)(ro:Option Nat)(c:bV)(x:X)(R:ai.Fr)(W:AW)(R':ai.Fr)(W':AW):Prop:=
 ∀(σ:dx) (a:bw) (w:ar) (Q:dr->bw->ar->Prop),bI σ W w.heap->BM σ ng->fy nt σ R a.tmps->uz n0 σ w a.defers->n0<=w.heap.size->
  (∀σ' a' w',fy nt σ' R' a'.tmps->uz n0 σ' w' a'.defers->bI σ' W' w'.heap->fR σ W w σ' W' w'->Q x.to a' w')->c.wpIn (FE ro) 0 P Q a w
def WZ{x:X}(hx:x≠ .normal){N:bw->ar->Prop}{Q:dr->bw->ar->Prop}{a:bw}{w:ar}(h:Q x.to a w):Exit.then N Q x.to a w:=by
 cases x with
 |normal=>exact absurd rfl hx
 |exit id=>exact h
 |ret=>exact h
def Sz{x:X}{id:Nat}{Q:dr->bw->ar->Prop}{a:bw}{w:ar}(h:(match x with|.exit i=>if i=id then Q .normal a w else Q (.exit i) a w|x=>Q x.to a w)):Exit.inBlock id Q x.to a w:=by
 cases x with
 |normal=>exact h
 |exit i=>exact h
 |ret=>exact h
def aeD{ng:List Nat}{nt n0:Nat}{ro:Option Nat}{b:bV}{body:ai.Fr->AW->Option (X×ai.Fr×AW)}(hb:∀x R W R' W',body R W=some (x,R',W')->aiA P ng nt n0 ro b x R W R' W'):
 ∀(m:Nat) (x:X) (R:ai.Fr) (W:AW) (R':ai.Fr) (W':AW),mP body m R W=some (x,R',W')->x≠ .normal/\∀(σ:dx) (a:bw) (w:ar) (Q:dr->bw->ar->Prop),bI σ W w.heap->BM σ ng->fy nt σ R a.tmps->uz n0 σ w a.defers->n0<=w.heap.size->
  (∀σ' a' w',fy nt σ' R' a'.tmps->uz n0 σ' w' a'.defers->bI σ' W' w'.heap->fR σ W w σ' W' w'->Q x.to a' w')->Code.roundsIn (FE ro) 0 P b Q m a w:=by
 intro m;induction m with
 |zero=>intro x R W R' W' h;cases h
 |succ m ih=>
  intro x R W R' W' h;unfold mP at h;split at h
  ·rename_i R1 W1 h1;obtain⟨hx,aoj⟩:=ih x R1 W1 R' W' h;refine⟨hx,λσ a w Q hW hG hR hM hn hQ=>?_⟩;refine hb _ _ _ _ _ h1 σ a w _ hW hG hR hM hn λσ1 a1 w1 k1 k2 k3 k4=>?_
   exact aoj σ1 a1 w1 Q k3 (hG.mono k4.sub) k1 k2 (dW hn k4.size) λσ2 a2 w2 g1 g2 g3 g4=>hQ σ2 a2 w2 g1 g2 g3 (k4.trans g4)
  ·rename_i fe;have hx:x≠ .normal:=by rintro rfl;exact fe R' W' h
   refine⟨hx,λσ a w Q hW hG hR hM hn hQ=>?_⟩;exact hb _ _ _ _ _ h σ a w _ hW hG hR hM hn λσ1 a1 w1 k1 k2 k3 k4=>WZ hx (hQ σ1 a1 w1 k1 k2 k3 k4)
def y7(hm:P.follows .mixedOrders=true){ng:List Nat}{nt n0:Nat}(Xt:ng=ai.ng){call:Callee}(hc:cl P ng call){top:Bool}{ro:Option Nat}(uN:top=true->ro=none):
 ∀(c:bV),kh nt ng c=true->∀(x:X) (R:ai.Fr) (W:AW) (R':ai.Fr) (W':AW),cy P call top nt c R W=some (x,R',W')->aiA P ng nt n0 ro c x R W R' W':=by
 intro c;induction c with
 |skip=>intro _ x R W R' W' h σ a w Q hW hG hR hM hn hQ;injection h with h;injection h with h1 h2;injection h2 with h2 h3;subst h1;subst h2;subst h3;exact wpIn_skip (hQ σ a w hR hM hW (.refl _ _ _))
 |label l=>intro _ x R W R' W' h σ a w Q hW hG hR hM hn hQ;injection h with h;injection h with h1 h2;injection h2 with h2 h3;subst h1;subst h2;subst h3;exact wpIn_label (hQ σ a w hR hM hW (.refl _ _ _))
 |exit id=>intro _ x R W R' W' h σ a w Q hW hG hR hM hn hQ;injection h with h;injection h with h1 h2;injection h2 with h2 h3;subst h1;subst h2;subst h3;exact wpIn_exit (hQ σ a w hR hM hW (.refl _ _ _))
 |ret=>intro _ x R W R' W' h σ a w Q hW hG hR hM hn hQ;injection h with h;injection h with h1 h2;injection h2 with h2 h3;subst h1;subst h2;subst h3;exact wpIn_ret (hQ σ a w hR hM hW (.refl _ _ _))
 |goto l=>intro _ x R W R' W' h;cases h
 |scope b _=>intro _ x R W R' W' h;cases h
 |refuse s=>intro _ x R W R' W' h;cases h
 |region id ops Gh=>
  intro mD x R W R' W' h σ a w Q hW hG hR hM hn hQ;simp only[kh,bA,pd,uW]at mD;have Qw:∀(i:Nat) (o:am),ops[i]? =some o->oK nt ng o=true:=λi o ho=>dd.1 mD.1 o (by have:=Array.mem_of_getElem? ho;simpa using this)
  unfold cy at h;split at h
  ·obtain⟨hx,hy⟩:=CH h;subst hx;refine wpIn_region (akF hc Qw (List.range ops.size) σ R W a w (by simp) hW hG hR (by rw[NO];exact hy) λσ' a' w' k1 k2 k3 k4=>?_);exact hQ σ' a' w' k1 (by rw[k2];exact hM.ext k4) k3 k4
  ·have pP:Ox ops (adk ops (ai.D id ops))=true:=mD.2.resolve_left (by simp);split at h
   ·rename_i hD;obtain⟨hx,hy⟩:=CH h;subst hx;rw[hD]at pP;refine Ta hm hc mD.1 pP hW hG hR (Rf:=R') (Wf:=W') ?_ λσ' a' w' k1 k2 k3 k4=>hQ σ' a' w' k1 (by rw[k2];exact hM.ext k4) k3 k4
    show mJ P call ops ((List.range ops.size).map λi=>(i,[])) R W=_;rw[U8 _ _ _ (by simp),NO];exact hy
   ·rename_i pl hD;obtain⟨hx,hy⟩:=CH h;subst hx;rw[hD]at pP;exact Ta hm hc mD.1 pP hW hG hR hy λσ' a' w' k1 k2 k3 k4=>hQ σ' a' w' k1 (by rw[k2];exact hM.ext k4) k3 k4
 |seq b c Tw ihc=>
  intro mD x R W R' W' h σ a w Q hW hG hR hM hn hQ;simp only[kh,bA]at mD;unfold cy at h;split at h
  ·rename_i R1 W1 h1;refine wpIn_seq (Tw mD.1 _ _ _ _ _ h1 σ a w _ hW hG hR hM hn λσ1 a1 w1 k1 k2 k3 k4=>?_);exact ihc mD.2 _ _ _ _ _ h σ1 a1 w1 Q k3 (hG.mono k4.sub) k1 k2 (dW hn k4.size) λσ2 a2 w2 g1 g2 g3 g4=>hQ σ2 a2 w2 g1 g2 g3 (k4.trans g4)
  ·rename_i fe;have hx:x≠ .normal:=by rintro rfl;exact fe R' W' h
   exact wpIn_seq (Tw mD.1 _ _ _ _ _ h σ a w _ hW hG hR hM hn λσ1 a1 w1 k1 k2 k3 k4=>WZ hx (hQ σ1 a1 w1 k1 k2 k3 k4))
 |cond o b c Tw ihc=>
  intro mD x R W R' W' h σ a w Q hW hG hR hM hn hQ;simp only[kh,bA]at mD;obtain⟨⟨h1,h2⟩,h3⟩:=mD;have hv:=Nv hR hG h1;unfold cy at h;split at h
  ·rename_i he;rw[he]at hv;exact wpIn_cond_true hv.jY (Tw h2 _ _ _ _ _ h σ a w Q hW hG hR hM hn hQ)
  ·rename_i he;rw[he]at hv;exact wpIn_cond_false hv.jY (ihc h3 _ _ _ _ _ h σ a w Q hW hG hR hM hn hQ)
  ·cases h
 |block id b ih=>
  intro mD x R W R' W' h σ a w Q hW hG hR hM hn hQ;simp only[kh]at mD;unfold cy at h;split at h
  ·rename_i i R1 W1 h1;refine wpIn_block (ih mD _ _ _ _ _ h1 σ a w _ hW hG hR hM hn λσ1 a1 w1 k1 k2 k3 k4=>Sz ?_);simp only;split at h
   ·rename_i hi;injection h with h;injection h with e1 e2;injection e2 with e2 e3;subst e1;subst e2;subst e3;rw[an hi];exact hQ σ1 a1 w1 k1 k2 k3 k4
   ·rename_i hi;injection h with h;injection h with e1 e2;injection e2 with e2 e3;subst e1;subst e2;subst e3;rw[aq hi];exact hQ σ1 a1 w1 k1 k2 k3 k4
  ·rename_i fe;refine wpIn_block (ih mD _ _ _ _ _ h σ a w _ hW hG hR hM hn λσ1 a1 w1 k1 k2 k3 k4=>Sz ?_);cases x with
   |normal=>exact hQ σ1 a1 w1 k1 k2 k3 k4
   |exit i=>exact absurd h (fe i R' W')
   |ret=>exact hQ σ1 a1 w1 k1 k2 k3 k4
 |loop b ih=>intro mD x R W R' W' h σ a w Q hW hG hR hM hn hQ;simp only[kh]at mD;unfold cy at h;exact wpIn_loop_rounds _ ((aeD (λx R W R' W' hh=>ih mD x R W R' W' hh) _ x R W R' W' h).2 σ a w Q hW hG hR hM hn hQ)
 |rangeFunc f ps aB4 bd _ _=>
  intro mD x R W R' W' h σ a w Q hW hG hR hM hn hQ;simp only[kh,bA]at mD;obtain⟨⟨⟨h1,h2⟩,h3⟩,h4⟩:=mD;unfold cy at h;split at h
  ·cases h
  have QR:ro=none:=uN rfl;subst QR;split at h;case h_2=>cases h
  rename_i i0 fs0 cs0 hf0;rw[AW.dU]at h;split at h;case h_2=>cases h
  rename_i u W2 apr;split at h;case h_2=>cases h
  rename_i st qL R9 WL Xx Wk Xq dX;obtain⟨p1,p2⟩:=hW.push (.deferred (some [])) (λ_ _ _ e=>by cases e);let w0:ar:={w with heap:=w.heap.push (.deferred (some []))};let Pc:Nat->Loop:=λfn=>{state:=.ready,pending:=none,fn,tmps:=a.tmps,params:=ps,assign:=aB4,body:=bd,defers:=w.heap.size}
  refine wpIn_rangeFunc λfn _=>?_
  have Sy:Sub σ (cx σ W.next ⟨w0.heap.size,0,1⟩):=dT hW.fresh;obtain⟨q1,q2⟩:=bI.alloc (w:=w0) p1 (o:=.loop .ready none R nt ps aB4 bd) (x:=.loop (Pc fn)) (e:=1)
   ⟨rfl,rfl,Pc fn,by simp,rfl,rfl,hR.mono Sy,rfl,rfl,rfl,⟨by rw[<-Xt];exact hG.mono Sy,by rw[<-Xt];exact h3⟩,⟨by rw[<-Xt];exact hG.mono Sy,by rw[<-Xt];exact h4⟩,h2⟩
  have hfv:=(Nv hR hG h1).mono Sy;rw[hf0]at hfv;have db:LR (cx σ W.next ⟨w0.heap.size,0,1⟩) [.func (.yield W.next) #[] #[]] [.func (.yield w0.heap.size) #[] #[]]:=
   .cons (.func _ _ _ _ _ _ (.yield _ _ dM) rfl (λi v v' x=>by simp at x) rfl (λi v v' x=>by simp at x)) .nil
  have hcv:=hc _ _ _ _ _ apr _ {w0 with heap:=w0.heap.push (.loop (Pc fn))} _ _ q1 (hG.mono Sy) hfv db;have awg:w0.heap.size=w.heap.size+1:=by simp[w0]
  have amQ:uz n0 (cx σ W.next ⟨w0.heap.size,0,1⟩) {w0 with heap:=w0.heap.push (.loop (Pc fn))} ([{target:=.collected w.heap.size,args:=#[]}]++a.defers):=by
   refine⟨⟨w.heap.size,rfl,hn,?_,?_,?_⟩,(hM.ext p2).ext q2⟩
   ·show(w0.heap.push _)[w.heap.size]? =_;rw[x8,bL];simp[w0]
   ·intro b g hg e;unfold cx at hg;split at hg
    ·injection hg with hg;subst hg;simp at e;omega
    ·have:=(hW.qP b g hg).2;omega
   ·intro d' ke r' ht e;have:∀{ds:List eA},uz n0 σ w ds->∀d'∈ds,∀r',d'.target=.collected r'->r'<w.heap.size:=by
     intro ds;induction ds with
     |nil=>intro _ d' ke;cases ke
     |cons d ds ih=>
      rintro⟨⟨r,e1,e2,e3,_⟩,hds⟩ d' ke r' ht;rcases eU.1 ke with rfl|ke
      ·rw[e1]at ht;injection ht with ht;subst ht;exact(eS.1 e3).1
      ·exact ih hds d' ke r' ht
    have:=this hM d' ke r' ht;omega
  unfold B0 at hcv;split at hcv;case h_3=>exact hcv.elim
  ·rename_i fv i fs cs BX;obtain⟨c1,c2⟩:=hcv;refine⟨w0.heap.size,[{target:=.collected w.heap.size,args:=#[]}],{w0 with heap:=w0.heap.push (.loop (Pc fn))},{target:=.fn (.func i) cs,args:=fs++#[.func (.yield w0.heap.size) #[] #[]]},{w0 with heap:=w0.heap.push (.loop (Pc fn))},i,fs++#[.func (.yield w0.heap.size) #[] #[]]++cs,{w0 with heap:=w0.heap.push (.loop (Pc fn))},?_,?_,λ_ _=>trivial,?_,λhd=>by rw[KR]at hd;simp at hd,?_⟩
   ·show(Instr.enterLoop fn a.tmps ps aB4 bd none).run P w=_;rw[run_enterLoop_outer,awg];rfl
   ·show(resolve a.eval (rangeCall f w0.heap.size) 0).run P _=.ok _ {w0 with heap:=w0.heap.push (.loop (Pc fn))};have:a.eval f=.func (.func i) fs cs:=BX;have ato:a.eval (.const (.func (.yield w0.heap.size) #[] #[]))=.func (.yield w0.heap.size) #[] #[]:=rfl;simp[resolve,this,Deferred.ofValue,ato]
   ·show(invoke (.fn (.func i) cs) (fs++#[.func (.yield w0.heap.size) #[] #[]])).run P _=_;have c1':(callFunc i (fs++#[.func (.yield w0.heap.size) #[] #[]]++cs)).run P {w0 with heap:=w0.heap.push (.loop (Pc fn))}=_:=c1;simpa[invoke]using c1'
   ·refine pf (JY c2) ?_;rintro e w' ⟨v',rfl,σ',k1,k2,k3⟩;obtain⟨hz,hzz⟩:σ' W.next=some ⟨w0.heap.size,0,1⟩/\True:=⟨k3.sub _ _ dM,aj⟩;obtain⟨_,_,r,r1,r2,r3,r4,r5,r6,r7,r8,r9,my⟩:=k2.obj _ _ _ dX hz;have ash:st≠ .busy:=by rintro rfl;simp at h
    have au0:=run_endLoop (P:=P) r1 (by rw[r2];exact ash);obtain⟨s1,s2⟩:=k2.setObj (w:=w') (o':=.loop .exhausted qL R9 WL Xx Wk Xq) (x:=.loop {r with state:=.exhausted}) dX (λ_=>by simp) hz ⟨rfl,rfl⟩ (λc t fr e=>by rw[r1]at e;cases e)
     ⟨rfl,rfl,{r with state:=.exhausted},by simp[(k2.qP _ _ hz).2],rfl,r3,r4,r5,r6,r7,r8,r9,my⟩
    obtain⟨t1,t2⟩:=bI.kill (w:={w' with heap:=w'.heap.setIfInBounds w0.heap.size (.loop {r with state:=.exhausted})}) s1 (b:=W.next) (g0:=⟨w0.heap.size,0,1⟩) (λcs=>by rw[AW.aW];simp) hz;have apk:(W2.put W.next (.loop .exhausted qL R9 WL Xx Wk Xq)).kill W.next=W2.kill W.next:=by simp only[AW.kill,AW.put];congr 1;exact T.set_set _ _ _ _
    rw[apk]at t1 t2;have Tj:fR σ W w σ' (W2.kill W.next) {w' with heap:=w'.heap.setIfInBounds w0.heap.size (.loop {r with state:=.exhausted})}:=
     (((p2.trans q2).trans k3).trans s2).trans t2
    have ajy:uz n0 σ' {w' with heap:=w'.heap.setIfInBounds w0.heap.size (.loop {r with state:=.exhausted})} ([{target:=.collected w.heap.size,args:=#[]}]++a.defers):=
     ((amQ.ext k3).ext s2).ext t2
    refine⟨qL,{w' with heap:=w'.heap.setIfInBounds w0.heap.size (.loop {r with state:=.exhausted})},by rw[au0,r3];rfl,?_⟩;have mf:∀x',x=x'->R'=R->W'=W2.kill W.next->Q x'.to {a with defers:=[{target:=.collected w.heap.size,args:=#[]}]++a.defers} {w' with heap:=w'.heap.setIfInBounds w0.heap.size (.loop {r with state:=.exhausted})}:=by rintro x' rfl rfl rfl;exact hQ σ' _ _ (hR.mono Tj.sub) ajy t1 Tj
    cases qL with
    |none=>
     have:x=.normal/\R'=R/\W'=W2.kill W.next:=by cases st<;>simp at h<;>simp_all
     exact mf .normal this.1 this.2.1 this.2.2
    |some cc=>
     cases cc<;>first
      |(exfalso;cases st<;>simp at h;done)
      |skip
     ·rename_i id;have:x=.exit id/\R'=R/\W'=W2.kill W.next:=by cases st<;>simp at h<;>simp_all
      exact wpIn_exit (mf (.exit id) this.1 this.2.1 this.2.2)
     ·have:x=.ret/\R'=R/\W'=W2.kill W.next:=by cases st<;>simp at h<;>simp_all
      exact wpIn_ret (mf .ret this.1 this.2.1 this.2.2)
  ·rename_i fv l fs cs BX;exfalso;obtain⟨LO,yj,cU,k1,_,_,k4⟩:=hfv.mR;cases k1;rw[BX]at k4;cases k4
end
end
section
variable [ai]
def cz:Nat->List ad->ai.Fr->ai.Fr
 |_,[],R=>R
 |k,v::l,R=>cz (k+1) l (SM R k v)
def nS:List Tmp->List ad->ai.Fr->ai.Fr
 |t::ts,v::l,R=>nS ts l (SM R t v)
 |_,_,R=>R
def L0(P:ah)(W:AW)(R:ai.Fr):List ResultVar->Option (List ad)
 |[]=>some []
 |.tmp t::l=>match L0 P W R l with
  |some vs=>some (du R t::vs)
  |none=>none
 |.cell a t::l=>match lR P W t (du R a)with
  |some v=>match L0 P W R l with
   |some vs=>some (v::vs)
   |none=>none
  |none=>none
def vV(P:ah)(W:AW)(R:ai.Fr)(rs:Array ResultVar):Option ad:=
 match L0 P W R rs.toList with
 |some [v]=>some v
 |some vs=>some (.tuple vs.toArray)
 |none=>none
def M7(nt:Nat):ResultVar->Bool
 |.tmp t=>Nat.blt t nt
 |.cell a _=>Nat.blt a nt
def Wh(ng:List Nat)(fn:iv):Bool:=
 match fn.body with
 |some c=>kh fn.ntmps ng c&&fn.results.toList.all (M7 fn.ntmps)&& !(fn.name== "runtime.NumGoroutine")
 |none=>true
def nE(ng:List Nat)(bad:List Nat):Nat->List iv->Bool
 |_,[]=>true
 |i,fn::l=>(P8 i bad||Wh ng fn)&&nE ng bad (i+1) l
def nL(P:ah)(bad:List Nat)(spec call:Callee):Callee:=λf args W=>
 match f with
 |.func (.func i) fs cs=>match P8 i bad with
  |true=>spec (.func (.func i) fs cs) args W
  |false=>match P.funcs[i]? with
   |some fn=>match fn.body with
    |some c=>match Nat.ble (fs.toList.length+(args.length+cs.toList.length)) fn.ntmps with
     |true=>match cy P call true fn.ntmps c (cz 0 (fs.toList++(args++cs.toList)) ai.blank) W with
      |some (x,R,W')=>match x with
       |.exit _=>none
       |_=>match vV P W' R fn.results with
        |some v=>some (v,W')
        |none=>none
      |none=>none
     |false=>none
    |none=>none
   |none=>none
 |.func (.yield l) fs _=>match W.get l with
  |some (.loop .ready none R nt ps aB4 bd)=>match Nat.beq (fs.toList.length+args.length) ps.size with
   |true=>match cy P call false nt aB4 (nS ps.toList (fs.toList++args) R) W with
    |some (.normal,R1,W1)=>match W1.get l with
     |some (.loop .ready pd9 R9 WL Xx Wk Xq)=>match cy P call false nt bd R1 (W1.put l (.loop .busy pd9 R9 WL Xx Wk Xq))with
      |some (x,_,W2)=>match W2.get l with
       |some (.loop _ _ R8 nt8 ps8 as8 bd8)=>match x with
        |.normal=>some (.bool true,W2.put l (.loop .ready none R8 nt8 ps8 as8 bd8))
        |x=>some (.bool false,W2.put l (.loop .done x.jump R8 nt8 ps8 as8 bd8))
       |_=>none
      |none=>none
     |_=>none
    |_=>none
   |false=>none
  |_=>none
 |_=>none
def UT(P:ah)(bad:List Nat)(spec:Callee):Nat->Callee
 |0=>λ_ _ _=>none
 |n+1=>nL P bad spec (UT P bad spec n)
def VU{ng:List Nat}{bad:List Nat}:∀(l:List iv) (k:Nat),nE ng bad k l=true->∀(i:Nat) (fn:iv),l[i]? =some fn->P8 (k+i) bad=false->Wh ng fn=true:=by
 intro l;induction l with
 |nil=>intro k _ i fn h;simp at h
 |cons f l ih=>
  intro k h i fn hi hb;simp only[nE,bA,pd]at h;cases i with
  |zero=>
   simp at hi;subst hi;rcases h.1 with h1|h1
   ·simp at hb;rw[h1]at hb;cases hb
   ·exact h1
  |succ i=>simp at hi;exact ih (k+1) h.2 i fn hi (by rw[<-hb];congr 1;omega)
def afY(t:Nat):du ai.blank t=ak:=ai.Gs t
def Y4:∀(l:List ad) (k:Nat) (R:ai.Fr) (t:Nat),du (cz k l R) t=if k<=t/\t<k+l.length then l.getD (t-k) ak else du R t:=by
 intro l;induction l with
 |nil=>intro k R t;simp[cz];intro h1 h2;omega
 |cons v l ih=>
  intro k R t;simp only[cz,ih,cP];by_cases h:k=t
  ·subst h;rw[bL,kH,Bf];simp
  ·rw[xp _ _ h];by_cases h2:k+1<=t/\t<k+1+l.length
   ·rw[an h2,kH];obtain⟨j,hj⟩:∃j,t-k=j+1:=⟨t-k-1,by omega⟩;have:t-(k+1)=j:=by omega
    rw[this,hj];simp
   ·rw[aq h2,bL]
section
variable {P:ah} {σ:dx} {W:AW} {w:ar}
def adO{nt:Nat}{l:List ad}{a:Array ad}(h:LR σ l a.toList)(hn:l.length<=nt):fy nt σ (cz 0 l ai.blank) (a++Array.replicate (nt-a.size) ak):=by
 have dS:l.length=a.size:=by have:=h.1;simpa using this
 refine⟨by simp;omega,λt ht=>?_⟩;rw[Y4];by_cases mC:t<l.length
 ·rw[kH];have h1:l[t]? =some l[t]:=bJ mC;obtain⟨v',e,hv⟩:=h.get h1;have e1:l.getD (t-0) ak=l[t]:=by simp[mC]
  have e2:(a++Array.replicate (nt-a.size) ak).getD t ak=v':=by
   rw[xR]at e;have:t<a.size:=by omega
   simp[Dj,this];rw[jN this]at e;injection e
  rw[e1,e2];exact hv
 ·rw[bL,afY];have e2:(a++Array.replicate (nt-a.size) ak).getD t ak=ak:=by simp only[AB,Dj];rw[bL];simp[Array.getElem?_replicate];split<;>rfl
  rw[e2];exact .undef
def afN{nt:Nat}:∀(ts:List Tmp) (l l':List ad) (R:ai.Fr) (tm:Array ad),LR σ l l'->ts.all (λt=>Nat.blt t nt)=true->fy nt σ R tm->
 fy nt σ (nS ts l R) ((ts.zip l').foldl (λtmps (x:Tmp×ad)=>tmps.setIfInBounds x.1 x.2) tm):=by
 intro ts;induction ts with
 |nil=>intro l l' R tm h _ hR;cases l<;>exact hR
 |cons t ts ih=>
  intro l l' R tm h ha hR;cases l with
  |nil=>have:=h.of_nil;subst this;exact hR
  |cons v l=>obtain⟨v',l'',rfl,hv,hl⟩:=h.of_cons;simp only[dz,bA]at ha;exact ih l l'' _ _ hl ha.2 (hR.set t hv)
def Qk(hW:bI σ W w.heap){t:ag}{x x' v:ad}(h:lR P W t x=some v)(hx:VR σ x x'):
 ∃v',(do loadVar t (<-asAddr x'):Sem ad).run P w=.ok v' w/\VR σ v v':=by
 obtain⟨v',h1,h2⟩:=ND hW h hx;refine⟨v',?_,h2⟩;rw[<-h1];unfold lR at h;split at h
 ·obtain⟨g,hg,hs,rfl⟩:=hx.xm;simp[asAddr,Instr.loadAt,Instr.sureAddr]
 ·cases h
def NZ(tmps:Array ad)(r:ResultVar):Sem ad:=
 match r with
 |.tmp t=>pure (tmps.getD t ak)
 |.cell a t=>do loadVar t (<-asAddr (tmps.getD a ak))
def Uf(fn:iv)(tmps:Array ad):results fn tmps=(do let vs<-fn.results.mapM (NZ tmps);pure (if h:vs.size=1 then vs[0]else .tuple vs)):=rfl
def aaJ(hW:bI σ W w.heap){nt:Nat}{R:ai.Fr}{tmps:Array ad}(hR:fy nt σ R tmps):∀(rs:List ResultVar) (vs:List ad),rs.all (M7 nt)=true->L0 P W R rs=some vs->
 ∃KD,LR σ vs KD/\(rs.mapM (NZ tmps)).run P w=.ok KD w:=by
 intro rs;induction rs with
 |nil=>intro vs _ h;injection h with h;subst h;exact⟨[],.nil,by simp⟩
 |cons r rs ih=>
  intro vs mD h;simp only[dz,bA]at mD;cases r with
  |tmp t=>
   unfold L0 at h;split at h
   ·rename_i vs0 h0;injection h with h;subst h;obtain⟨KD,k1,k2⟩:=ih vs0 mD.2 h0;refine⟨_,.cons (hR.2 t (by simpa[M7,jH]using mD.1)) k1,?_⟩;have h1:(NZ tmps (.tmp t)).run P w=.ok (tmps.getD t ak) w:=rfl;rw[List.mapM_cons,cQ,h1,cK,cQ,k2,cK];rfl
   ·cases h
  |cell a t=>
   unfold L0 at h;split at h
   ·rename_i v hv;split at h
    ·rename_i vs0 h0;injection h with h;subst h;obtain⟨KD,k1,k2⟩:=ih vs0 mD.2 h0;obtain⟨v',k3,k4⟩:=Qk hW hv (hR.2 a (by simpa[M7,jH]using mD.1));refine⟨_,.cons k4 k1,?_⟩;have h1:(NZ tmps (.cell a t)).run P w=.ok v' w:=k3;rw[List.mapM_cons,cQ,h1,cK,cQ,k2,cK];rfl
    ·cases h
   ·cases h
def Pr(hW:bI σ W w.heap){fn:iv}{R:ai.Fr}{tmps:Array ad}{v:ad}(mD:fn.results.toList.all (M7 fn.ntmps)=true)(hR:fy fn.ntmps σ R tmps)(h:vV P W R fn.results=some v):
 ∃v',(results fn tmps).run P w=.ok v' w/\VR σ v v':=by
 unfold vV at h;have key:∀vs,L0 P W R fn.results.toList=some vs->∃KD,LR σ vs KD/\(results fn tmps).run P w=.ok (if h:KD.toArray.size=1 then KD.toArray[0]else .tuple KD.toArray) w:=by intro vs hvs;obtain⟨KD,k1,k2⟩:=aaJ hW hR _ _ mD hvs;refine⟨KD,k1,?_⟩;rw[Uf,cQ,Array.mapM_eq_mapM_toList,Sem.run_map,k2];rfl
 split at h
 ·rename_i u hu;injection h with h;subst h;obtain⟨KD,k1,k2⟩:=key _ hu;obtain⟨v',l',rfl,k3,k4⟩:=k1.of_cons;have:=k4.of_nil;subst this;exact⟨v',by rw[k2];simp,k3⟩
 ·rename_i vs fe hvs;injection h with h;subst h;obtain⟨KD,k1,k2⟩:=key _ hvs;refine⟨.tuple KD.toArray,?_,VR.tuple' (by simpa using k1)⟩;rw[k2];have:KD.toArray.size≠1:=by
   intro e;have e2:vs.length=1:=by have:=k1.1;simp at e;omega
   match vs,e2 with
   |[u],_=>exact fe u rfl
  rw[dif_neg this]
 ·cases h
end
section
variable {P:ah} {σ σ0:dx} {W W0:AW} {w w0:ar}
def fR.other(he:fR σ0 W0 w0 σ W w){r:Nat}(hr:w0.heap.size<=r){x y:Obj}(hy:w.heap[r]? =some y)(hx:∀c t fr,x≠ .cells c t fr)(hy':∀c t fr,y≠ .cells c t fr):fR σ0 W0 w0 σ W (w.putObj r x):=
 ⟨he.sub,he.ro,by simpa[World.putObj]using he.size,he.os,he.tape,he.output,λB hB hm=>by rw[World.putObj_heap_other (by omega)];exact he.keep B hB hm,he.ghost,he.grow⟩
def amP{fn:iv}{R:ai.Fr}{tmps:Array ad}{v:ad}(mD:fn.results.toList.all (M7 fn.ntmps)=true)(hR:fy fn.ntmps σ R tmps)(h:vV P W R fn.results=some v):
 ∀(ds:List eA) (w:ar),uz w0.heap.size σ w ds->bI σ W w.heap->fR σ0 W0 w0 σ W w->
  LeavesInM (FE none) 0 P fn tmps (λe w'=>∃v',e=.returned v'/\∃σ',VR σ' v v'/\bI σ' W w'.heap/\fR σ0 W0 w0 σ' W w') ds .returning w:=by
 intro ds;induction ds with
 |nil=>intro w _ hW he;obtain⟨v',k1,k2⟩:=Pr hW mD hR h;exact⟨v',k1,v',rfl,σ,k2,hW,he⟩
 |cons d ds ih=>
  rintro w ⟨⟨r,e1,e2,e3,e4,e5⟩,hds⟩ hW he;refine⟨by simp,.inl ⟨r,w.putObj r (.deferred none),by rw[e1],run_takeDeferred e3,ih _ ?_ (hW.other e4 _) (he.other e2 e3 (λ_ _ _ e=>by cases e) (λ_ _ _ e=>by cases e))⟩⟩;have:∀{ds:List eA},(∀d'∈ds,∀r',d'.target=.collected r'->r'≠r)->uz w0.heap.size σ w ds->uz w0.heap.size σ (w.putObj r (.deferred none)) ds:=by
   intro ds;induction ds with
   |nil=>intro _ _;trivial
   |cons d ds ih=>rintro fe ⟨⟨r',a1,a2,a3,a4,a5⟩,hds⟩;exact⟨⟨r',a1,a2,by rw[World.putObj_heap_other (fe d (by simp) r' (by rw[a1]))];exact a3,a4,a5⟩,ih (λd' ke=>fe d' (by simp[ke])) hds⟩
  exact this e5 hds
end
end
section
variable [ai]
def T5(l:Nat):(FE none).inRound l=FE (some l):=rfl
def fk{P:ah}{f:jD}{fn:iv}{c:bV}(hf:P.funcs[f]? =some fn)(qC:(fn.name== "runtime.NumGoroutine")=false)(hb:fn.body=some c)(args:Array ad)(w:ar):
 (callFunc f args).run P w=.ok (.enter f args) w:=by
 have h1:fn.name≠ "runtime.NumGoroutine" :=by simpa using qC
 simp[callFunc,hf,h1,hb]
def G0{P:ah}(hm:P.follows .mixedOrders=true){ng:List Nat}(Xt:ng=ai.ng){bad:List Nat}(hP:nE ng bad 0 P.funcs.toList=true){spec:Callee}(hs:cl P ng spec){call:Callee}(ih:cl P ng call):
 cl P ng (nL P bad spec call):=by
 intro f args W v W' h σ w f' cZ hW hG hf db
 unfold nL at h
 split at h
 ·
  rename_i i fs cs;split at h
  ·exact hs _ _ _ _ _ h σ w f' cZ hW hG hf db
  rename_i EZ;split at h;case h_2=>cases h
  rename_i fn Mn;split at h;case h_2=>cases h
  rename_i c abI;split at h;case h_2=>cases h
  rename_i dS;split at h;case h_2=>cases h
  rename_i x R W1 ap1;have ah1:Wh ng fn=true:=VU _ _ hP i fn (by rw[xR];exact Mn) (by simpa using EZ);unfold Wh at ah1;rw[abI]at ah1;simp only[bA,uW]at ah1;obtain⟨⟨hco,auY⟩,qC⟩:=ah1;obtain⟨LO,yj,cU,E1,HP,nT,rfl⟩:=hf.mR;cases E1;have hx:(∀id,x≠ .exit id)/\∃v0,vV P W1 R fn.results=some v0/\v0=v/\W1=W':=by
   cases x with
   |exit id=>cases h
   |normal=>
    refine⟨λid e=>X.noConfusion e,?_⟩;simp only at h;split at h
    ·rename_i v0 hv0;injection h with h;injection h with h1 h2;exact⟨v0,hv0,h1,h2⟩
    ·cases h
   |ret=>
    refine⟨λid e=>X.noConfusion e,?_⟩;simp only at h;split at h
    ·rename_i v0 hv0;injection h with h;injection h with h1 h2;exact⟨v0,hv0,h1,h2⟩
    ·cases h
  obtain⟨hxe,v0,hv0,rfl,rfl⟩:=hx;have yz:LR σ (fs.toList++(args++cs.toList)) (yj++cZ.toArray++cU).toList:=by have h1:=(HP.append (db.append nT));simpa[iK]using h1
  have aoU:(fs.toList++(args++cs.toList)).length<=fn.ntmps:=by have:=Nat.le_of_ble_eq_true dS;simpa using this
  refine⟨fk Mn qC abI _ w,?_⟩;refine callsIn_of_wp_marks Mn abI trivial ?_;refine y7 hm Xt ih (n0:=w.heap.size) (λ_=>rfl) c hco x _ _ _ _ ap1 σ _ w _ hW hG (adO yz aoU) trivial (aR _) λσ' a' w' k1 k2 k3 k4=>?_
  have hl:=amP auY k1 hv0 a'.defers w' k2 k3 k4;cases x with
  |exit id=>exact absurd rfl (hxe id)
  |normal=>exact hl
  |ret=>exact hl
 ·
  rename_i l fs cs;split at h;case h_2=>cases h
  rename_i R nt ps aB4 bd dX;split at h;case h_2=>cases h
  rename_i dS;split at h;case h_2=>cases h
  rename_i R1 W1 akl;split at h;case h_2=>cases h
  rename_i pd9 R9 WL Xx Wk Xq aiC;split at h;case h_2=>cases h
  rename_i x R2 W2 akx;split at h;case h_2=>cases h
  rename_i st8 pd8 R8 nt8 ps8 as8 bd8 aid;obtain⟨LO,yj,cU,E1,HP,nT,rfl⟩:=hf.mR;cases E1 with
  |yield _ g hg=>
  obtain⟨g1,g2,r,r1,r2,r3,r4,r5,r6,r7,⟨hG1,hk1⟩,⟨hG2,WS⟩,hps⟩:=hW.obj _ _ _ dX hg;have yz:LR σ (fs.toList++args) (yj++cZ.toArray).toList:=by have h1:=HP.append db;simpa using h1
  have vS:(yj++cZ.toArray).size=r.params.size:=by have h1:=yz.1;have h2:fs.toList.length+args.length=ps.size:=A5 dS;rw[cD,h2,Array.length_toList]at h1;rw[r5];exact h1.symm
  refine⟨r.fn,_,r.assign,r.body,run_yield r1 vS,?_⟩;rw[r6,r7];refine roundIn_of_wpIn trivial ?_;have hR0:fy nt σ (nS ps.toList (fs.toList++args) R) ((r.params.zip (yj++cZ.toArray)).foldl (λtmps (x:Tmp×ad)=>tmps.setIfInBounds x.1 x.2) r.tmps):=by have:=afN ps.toList _ _ R r.tmps yz hps r4;rw[r5,<-Array.foldl_toList,Array.toList_zip];exact this
  rw[<-Xt]at hk1 WS;rw[T5];refine y7 hm Xt ih (n0:=w.heap.size) (ro:=some g.B) (λe=>by cases e) aB4 hk1 .normal _ _ _ _ akl σ _ w _ hW hG hR0 trivial (aR _) λσ1 a1 w1 k1 k2 k3 k4=>?_
  have hg1:σ1 l=some g:=k4.sub _ _ hg;obtain⟨_,_,rr,q1,q2,q3,q4,q5,q6,q7,q8,q9,YB⟩:=k3.obj _ _ _ aiC hg1;have aqI:g.s=0/\g.e=1:=⟨g1,g2⟩;obtain⟨s1,s2⟩:=k3.setObj (w:=w1) (o':=.loop .busy pd9 R9 WL Xx Wk Xq) (x:=.loop {rr with state:=.busy}) aiC (λ_=>by simp) hg1 aqI (λc t fr e=>by rw[q1]at e;cases e)
   ⟨g1,g2,{rr with state:=.busy},by simp[(k3.qP _ _ hg1).2],rfl,q3,q4,q5,q6,q7,q8,q9,YB⟩
  refine⟨_,run_beginRound q1 q2,?_⟩;refine y7 hm Xt ih (n0:=w.heap.size) (ro:=some g.B) (λe=>by cases e) bd WS x _ _ _ _ akx σ1 a1 (w1.putObj g.B (.loop {rr with state:=.busy})) _ s1 (hG.mono k4.sub) k1 (k2.ext s2) (by have:=k4.size;simpa using this) λσ2 a2 w2 _ _ t3 t4=>?_
  have rJ:σ2 l=some g:=t4.sub _ _ hg1;obtain⟨_,_,r8,u1,u2,u3,u4,u5,u6,u7,u8,u9,u10⟩:=t3.obj _ _ _ aid rJ;have mf:∀(jump:Option bV) (st':LoopState),st'=(if jump.isNone then .ready else .done)->v=.bool jump.isNone->W'=W2.put l (.loop st' jump R8 nt8 ps8 as8 bd8)->
   ∃v' w',(Instr.endRound g.B jump).run P w2=.ok v' w'/\∃v'',Ending.returned v'=.returned v''/\∃σ',VR σ' v v''/\bI σ' W' w'.heap/\fR σ W w σ' W' w':=by
   intro jump st' ug hv hW';subst ug;subst hv;subst hW';obtain⟨z1,z2⟩:=t3.setObj (w:=w2) (o':=.loop (if jump.isNone then .ready else .done) jump R8 nt8 ps8 as8 bd8) (x:=.loop {r8 with state:=if jump.isNone then .ready else .done,pending:=jump}) aid (λ_=>by simp) rJ aqI (λc t fr e=>by rw[u1]at e;cases e)
    ⟨g1,g2,{r8 with state:=if jump.isNone then .ready else .done,pending:=jump},by simp[(t3.qP _ _ rJ).2],rfl,rfl,u4,u5,u6,u7,u8,u9,u10⟩
   exact⟨_,_,run_endRound jump u1,_,rfl,σ2,.bool _,z1,((k4.trans s2).trans t4).trans z2⟩
  cases x with
  |normal=>simp only at h;injection h with h;injection h with h1 h2;exact mf none .ready rfl h1.symm h2.symm
  |exit id=>simp only at h;injection h with h;injection h with h1 h2;exact mf (some (.exit id)) .done rfl h1.symm h2.symm
  |ret=>simp only at h;injection h with h;injection h with h1 h2;exact mf (some .ret) .done rfl h1.symm h2.symm
 ·cases h
def Nl{P:ah}(hm:P.follows .mixedOrders=true){ng:List Nat}(Xt:ng=ai.ng){bad:List Nat}(hP:nE ng bad 0 P.funcs.toList=true){spec:Callee}(hs:cl P ng spec):
 ∀n,cl P ng (UT P bad spec n)
 |0=>λf args W v W' h=>by cases h
 |n+1=>G0 hm Xt hP hs (Nl hm Xt hP hs n)
end
section
variable [ai]
def pA(P:ah)(ok:Bool)(s:Sem Next):Option ad:=
 if ok then match D6 (cH P s)with
  |some v=>if bN v then some v else none
  |none=>none
 else none
def dh(v:ad)(W:AW):Option (ad×AW):=some (v,W)
def jQ(c a b:ad)(W:AW):Option (ad×AW):=match c with
 |.bool true=>some (a,W)
 |.bool false=>some (b,W)
 |_=>none
def dg(P:ah)(t:ag)(W:AW):Option (ad×AW):=match kG P t with
 |some z=>some (.pointer (some ⟨W.next,0,none⟩),W.add (rl t z.cells.toList))
 |none=>none
def rD(x:ad)(W:AW):Option (ad×AW):=some (.pointer (some ⟨W.next,0,none⟩),W.add (.cells x.cells.toList))
def akp(P:ah)(t:ag)(vs:List (Nat×ad)):Option ad:=
 match kG P t,P.underlying t with
 |some z,some (.struct fs)=>match vU P fs.toList with
  |some pl=>(Hp (pl.toArray[·]?) z.cells vs).map .agg
  |none=>none
 |some z,some (.array _ e)=>match nX P e with
  |some n=>(Hp (λi=>some (i*n,n)) z.cells vs).map .agg
  |none=>none
 |_,_=>none
def fd(P:ah)(t:ag)(vs:List (Nat×ad))(W:AW):Option (ad×AW):=(akp P t vs).map λv=>(v,W)
def cX(P:ah)(t:ag)(len:Nat)(vs:List (Nat×ad))(W:AW):Option (ad×AW):=
 match P.underlying t with
 |some (.slice e)=>match nX P e,kG P e with
  |some n,some z=>
   if len*n<=16777216/\len<eJ/\(Nat.beq z.cells.size n&&z.cells.toList.all cC)=true then
    match Hp (λi=>some (i*n,n)) (yA z.cells.toList len).toArray vs with
    |some c=>some (Value.slice (some ⟨W.next,0,none⟩) len len,W.add (.cells c.toList))
    |none=>none
   else none
  |_,_=>none
 |_=>none
def iU(P:ah)(t:ag)(a:ad)(W:AW):Option (ad×AW):=(lR P W t a).map λv=>(v,W)
def E5(W:AW)(b off:Nat)(vs:List ad):Option AW:=match W.get b with
 |some (.cells cs)=>(match K0 cs off vs with
  |some l=>some (W.put b (.cells l))
  |none=>none)
 |_=>none
def JC(W:AW)(b off:Nat)(vs:List ad):E5 W b off vs=match W.get b with
 |some (.cells cs)=>if off+vs.length<=cs.length/\vs.all one=true then some (W.put b (.cells (ip cs off vs)))else none
 |_=>none:=by
 unfold E5;split
 ·rename_i cs nT;rw[Fp];by_cases h:off+vs.length<=cs.length/\vs.all one=true
  ·rw[an h,an h]
  ·rw[aq h,aq h]
 ·rfl
def X3{W W':AW}{b off:Nat}{vs:List ad}(h:E5 W b off vs=some W'):rG W b off vs=some W':=by
 unfold E5 at h;unfold rG;split at h
 ·rename_i cs nT;rw[nT];exact h
 ·cases h
def DE(P:ah)(W:AW)(t:ag)(x v:ad):Option AW:=
 match x with
 |.pointer (some a)=>match nX P t with
  |some n=>if v.cells.size=n then E5 W a.block a.off v.cells.toList else none
  |none=>none
 |_=>none
def VV{P:ah}{W W':AW}{t:ag}{x v:ad}(h:DE P W t x v=some W'):Ct P W t x v=some W':=by
 unfold DE at h;unfold Ct;split at h
 ·split at h
  ·rename_i n hn;simp only[hn];split at h
   ·rename_i hc;rw[an hc];exact X3 h
   ·cases h
  ·cases h
 ·cases h
def akt(P:ah)(t:ag)(a x:ad)(W:AW):Option (ad×AW):=(DE P W t a x).map λW'=>(ak,W')
def vP(x:ad)(W:AW):Option (ad×AW):=match x with
 |.pointer (some a)=>some (.pointer (some a),W)
 |.func (.func f) a b=>some (.func (.func f) a b,W)
 |.func (.yield l) a b=>some (.func (.yield l) a b,W)
 |.iface t v=>some (.iface t v,W)
 |_=>none
def opd:Bool->au
 |true=>.const ak
 |false=>.tmp 0
def oq:au->Bool:=Operand.rec (λ_=>false) (λ_=>true) (λ_=>false) (λ_=>false)
def MO(op:BinOp)(t:ag)(x y:au)(a b:ad):eqGuard op t x y a b=eqGuard op t (opd (oq x)) (opd (oq y)) a b:=by cases x<;>cases y<;>rfl
def bO(P:ah)(op:BinOp)(t:ag)(a b:Bool)(vx vy:ad)(W:AW):Option (ad×AW):=
 match rV P W op t vx vy with
 |some v=>some (v,W)
 |none=>(pA P (bN vx&&(bN vy&&true)) (do pure (.value (<-(do eqGuard op t (opd a) (opd b) vx vy;binOp op t vx vy))))).map λv=>(v,W)
def oUn(P:ah)(op:UnOp)(x:ad)(W:AW):Option (ad×AW):=
 (pA P (bN x&&true) (do pure (.value (<-Op.unary op x)))).map λv=>(v,W)
def wu(P:ah)(s d:ag)(x:ad)(W:AW):Option (ad×AW):=
 (Jx P W s d x (pA P (bN x&&true) (do pure (.value (<-convert s d x))))).map λv=>(v,W)
def RK(P:ah)(t:ag)(x:ad)(W:AW):Option (ad×AW):=match P.underlying t with
 |some (.interface _)=>none
 |some _=>some (.iface t x,W)
 |none=>none
def ut(fn:Fn)(first kT:Array ad)(W:AW):Option (ad×AW):=match fn with
 |.func f=>some (.func (.func f) first kT,W)
 |_=>none
def vf(P:ah)(t:ag)(r:Option ad)(W:AW):Option (ad×AW):=match r with
 |none=>some (Value.map (some W.next),W.add (.map [] 0))
 |some h=>match P.underlying t,h with
  |some (.map _ _),.int _ _=>some (Value.map (some W.next),W.add (.map [] 0))
  |_,_=>none
def gh(P:ah)(t:ag)(l c:ad)(W:AW):Option (ad×AW):=
 match P.underlying t with
 |some (.slice e)=>match nX P e,kG P e,(P.info? e).map (·.bytes),l,c with
  |some n,some z,some bytes,.int _ (.ofNat l),.int _ (.ofNat c)=>
   if l<=c/\c<9223372036854775808/\c*bytes<=281474976710656/\(kF z (c*n)).toList.all cC=true then
    some (Value.slice (some ⟨W.next,0,none⟩) l c,W.add (.cells (kF z (c*n)).toList))
   else none
  |_,_,_,_,_=>none
 |_=>none
def eP(P:ah)(t:ag)(x:ad)(lo hi mx:Option ad)(W:AW):Option (ad×AW):=
 match mz P t x lo hi mx with
 |some v=>some (v,W)
 |none=>(pA P ((x::(lo.toList++(hi.toList++mx.toList))).all bN) (do pure (.value (<-Instr.sliceAt t x lo hi mx)))).map λv=>(v,W)
def Vi(P:ah)(s:ag)(x:ad)(f:Nat)(W:AW):Option (ad×AW):=match P.underlying s,x with
 |some (.struct fs),.pointer (some a)=>match fs[f]? with
  |some fl=>match nX P fl.type with
   |some (_+1)=>some (.pointer (some (a.add fl.offset)),W)
   |_=>none
  |none=>none
 |_,_=>none
def al2(P:ah)(t:ag)(x:ad)(f:Nat)(W:AW):Option (ad×AW):=match P.underlying t,x with
 |some (.struct fs),.agg cs=>match fs[f]? with
  |some fl=>(DN P fl.type cs fl.offset).map λv=>(v,W)
  |none=>none
 |_,_=>none
def VX(P:ah)(t:ag)(x i:ad)(W:AW):Option (ad×AW):=match P.underlying t,x,kJ i with
 |some (.slice e),.slice (some a) len _,some n=>match nX P e with
  |some z=>if n<len then some (.pointer (some (a.add (n*z))),W)else none
  |none=>none
 |some (.array len e),.pointer (some a),some n=>match nX P e with
  |some z=>if n<len then some (.pointer (some (a.add (n*z))),W)else none
  |none=>none
 |_,_,_=>none
def rf(P:ah)(t:ag)(x i:ad)(W:AW):Option (ad×AW):=match P.underlying t,x,kJ i with
 |some (.array len e),.agg cs,some n=>match nX P e with
  |some z=>if n<len then(DN P e cs (n*z)).map λv=>(v,W)else none
  |none=>none
 |_,_,_=>(pA P (bN x&&(bN i&&true)) (do pure (.value (<-Instr.index t x i)))).map λv=>(v,W)
def uL(P:ah)(t:ag)(m k:ad)(ok:Bool)(W:AW):Option (ad×AW):=(oB P W t m k ok).map λv=>(v,W)
def jF(P:ah)(t:ag)(m k v:ad)(W:AW):Option (ad×AW):=(jI P W t m k v).map λW'=>(ak,W')
def sZ(x:ad)(i:Nat)(W:AW):Option (ad×AW):=match x with
 |.tuple vs=>(vs[i]?).map λv=>(v,W)
 |_=>none
def ahe(P:ah)(x:ad)(t:ag)(ok:Bool)(W:AW):Option (ad×AW):=match P.underlying t,x with
 |some (.interface _),_=>none
 |some _,.iface u v=>if u=t then some (if ok then .tuple #[v,.bool true]else v,W)else none
 |_,_=>none
def Gj(P:ah)(t:ag)(x:ad)(W:AW):Option (ad×AW):=match P.underlying t,x with
 |some .string,.string s=>some (Value.pointer (some ⟨W.next,0,none⟩),W.add (.qJ s 0))
 |_,_=>none
def abw(it:ad)(W:AW):Option (ad×AW):=match it with
 |.pointer (some ⟨b,0,_⟩)=>match W.get b with
  |some (.qJ s pos)=>if pos<s.size then some (.tuple #[.bool true,goInt pos,.int .i32 (Utf8.decode s pos).1],W.put b (.qJ s (pos+(Utf8.decode s pos).2)))else some (.tuple #[.bool false],W)
  |_=>none
 |_=>none
def aZ(P:ah)(b:Builtin)(ts:Array ag)(ty:ag)(cf:Array Bool)(args:List ad)(W:AW):Option (ad×AW):=
 match b,args with
 |.len,[.slice _ n _]=>match(ts[0]?).bind P.underlying with
  |some (.slice _)=>some (goInt n,W)
  |_=>none
 |.len,[.map none]=>match(ts[0]?).bind P.underlying with
  |some (.map _ _)=>some (goInt 0,W)
  |_=>none
 |.len,[.map (some r)]=>match(ts[0]?).bind P.underlying,W.get r with
  |some (.map _ _),some (.map es _)=>some (goInt es.length,W)
  |_,_=>none
 |.append,[s,x]=>EV P W ts s x
 |.copy,[d,x]=>WV P W ts d x
 |.clear,[x]=>(PE P W ts x).map λW'=>(.tuple #[],W')
 |.delete,[m,k]=>(uA P W ts m k).map λW'=>(.tuple #[],W')
 |.unsafeSliceData,[x]=>(xu x).map λv=>(v,W)
 |.unsafeString,[p,n]=>qd P W ts p n
 |_,_=>(pA P (args.all bN) (builtin b ts ty cf args.toArray)).map λv=>(v,W)
def ahD(P:ah)(call:Callee)(r:ad)(name:String)(args:List ad)(W:AW):Option (ad×AW):=match r with
 |.iface t v=>match vW P t name with
  |some f=>call (.func (.func f) #[] #[]) (v::args) W
  |none=>none
 |_=>none
def aiX(x:au)(P:ah)(call:Callee)(o:am)(R:ai.Fr)(W:AW):Option (ad×AW):=dh (aE R x) W
def aoK(c a b:au)(P:ah)(call:Callee)(o:am)(R:ai.Fr)(W:AW):Option (ad×AW):=jQ (aE R c) (aE R a) (aE R b) W
def amk(t:ag)(P:ah)(call:Callee)(o:am)(R:ai.Fr)(W:AW):Option (ad×AW):=dg P t W
def atS(t:ag)(x:au)(P:ah)(call:Callee)(o:am)(R:ai.Fr)(W:AW):Option (ad×AW):=rD (aE R x) W
def ajs(t:ag)(ps:Array (Nat×au))(P:ah)(call:Callee)(o:am)(R:ai.Fr)(W:AW):Option (ad×AW):=fd P t (parts R ps) W
def Rj(t:ag)(n:Nat)(ps:Array (Nat×au))(P:ah)(call:Callee)(o:am)(R:ai.Fr)(W:AW):Option (ad×AW):=cX P t n (parts R ps) W
def ahx(_t:ag)(_m _k _v:au)(P:ah)(call:Callee)(o:am)(R:ai.Fr)(W:AW):Option (ad×AW):=none
def aqo(t:ag)(a:au)(P:ah)(call:Callee)(o:am)(R:ai.Fr)(W:AW):Option (ad×AW):=iU P t (aE R a) W
def ake(t:ag)(a x:au)(P:ah)(call:Callee)(o:am)(R:ai.Fr)(W:AW):Option (ad×AW):=akt P t (aE R a) (aE R x) W
def ap0(_g:Nat)(P:ah)(call:Callee)(o:am)(R:ai.Fr)(W:AW):Option (ad×AW):=none
def YE(x:au)(P:ah)(call:Callee)(o:am)(R:ai.Fr)(W:AW):Option (ad×AW):=vP (aE R x) W
def akA(op:BinOp)(t:ag)(x y:au)(yt:ag)(P:ah)(call:Callee)(o:am)(R:ai.Fr)(W:AW):Option (ad×AW):=bO P op t (oq x) (oq y) (aE R x) (aE R y) W
def aqS(op:UnOp)(t:ag)(x:au)(P:ah)(call:Callee)(o:am)(R:ai.Fr)(W:AW):Option (ad×AW):=oUn P op (aE R x) W
def aem(s d:ag)(x:au)(P:ah)(call:Callee)(o:am)(R:ai.Fr)(W:AW):Option (ad×AW):=wu P s d (aE R x) W
def kTO(_d:ag)(_x:au)(P:ah)(call:Callee)(o:am)(R:ai.Fr)(W:AW):Option (ad×AW):=none
def Jq(t:ag)(x:au)(P:ah)(call:Callee)(o:am)(R:ai.Fr)(W:AW):Option (ad×AW):=RK P t (aE R x) W
def Zn(fn:Fn)(first kT:Array au)(P:ah)(call:Callee)(o:am)(R:ai.Fr)(W:AW):Option (ad×AW):=ut fn (first.map (aE R)) (kT.map (aE R)) W
def ach(t:ag)(r:Option au)(P:ah)(call:Callee)(o:am)(R:ai.Fr)(W:AW):Option (ad×AW):=vf P t (r.map (aE R)) W
def T6(t:ag)(l c:au)(P:ah)(call:Callee)(o:am)(R:ai.Fr)(W:AW):Option (ad×AW):=gh P t (aE R l) (aE R c) W
def amK(t:ag)(x:au)(lo hi mx:Option au)(P:ah)(call:Callee)(o:am)(R:ai.Fr)(W:AW):Option (ad×AW):=eP P t (aE R x) (lo.map (aE R)) (hi.map (aE R)) (mx.map (aE R)) W
def T9(s:ag)(x:au)(f:Nat)(P:ah)(call:Callee)(o:am)(R:ai.Fr)(W:AW):Option (ad×AW):=Vi P s (aE R x) f W
def akI(t:ag)(x:au)(f:Nat)(P:ah)(call:Callee)(o:am)(R:ai.Fr)(W:AW):Option (ad×AW):=al2 P t (aE R x) f W
def Vs(t:ag)(x i:au)(P:ah)(call:Callee)(o:am)(R:ai.Fr)(W:AW):Option (ad×AW):=VX P t (aE R x) (aE R i) W
def akh(t:ag)(x i:au)(P:ah)(call:Callee)(o:am)(R:ai.Fr)(W:AW):Option (ad×AW):=rf P t (aE R x) (aE R i) W
def afI(t:ag)(m k:au)(ok:Bool)(P:ah)(call:Callee)(o:am)(R:ai.Fr)(W:AW):Option (ad×AW):=uL P t (aE R m) (aE R k) ok W
def Vl(t:ag)(m k v:au)(P:ah)(call:Callee)(o:am)(R:ai.Fr)(W:AW):Option (ad×AW):=jF P t (aE R m) (aE R k) (aE R v) W
def at4(_t:ag)(_m _k:au)(P:ah)(call:Callee)(o:am)(R:ai.Fr)(W:AW):Option (ad×AW):=none
def aox(_t:ag)(_m _s _v:au)(P:ah)(call:Callee)(o:am)(R:ai.Fr)(W:AW):Option (ad×AW):=none
def amM(t:ag)(x:au)(P:ah)(call:Callee)(o:am)(R:ai.Fr)(W:AW):Option (ad×AW):=Gj P t (aE R x) W
def aq7(it:au)(s:Bool)(P:ah)(call:Callee)(o:am)(R:ai.Fr)(W:AW):Option (ad×AW):=match s with
 |true=>abw (aE R it) W
 |false=>none
def kO(_it:au)(P:ah)(call:Callee)(o:am)(R:ai.Fr)(W:AW):Option (ad×AW):=none
def Sj(x:au)(_t a:ag)(ok:Bool)(P:ah)(call:Callee)(o:am)(R:ai.Fr)(W:AW):Option (ad×AW):=ahe P (aE R x) a ok W
def ab9(x:au)(i:Nat)(P:ah)(call:Callee)(o:am)(R:ai.Fr)(W:AW):Option (ad×AW):=sZ (aE R x) i W
def apE(c:Call)(P:ah)(call:Callee)(o:am)(R:ai.Fr)(W:AW):Option (ad×AW):=
 match c.callee with
 |.builtin b=>aZ P b c.argTypes o.type (c.args.map oq) (c.args.toList.map (aE R)) W
 |.value f=>call (aE R f) (c.args.toList.map (aE R)) W
 |.invoke r name=>ahD P call (aE R r) name (c.args.toList.map (aE R)) W
def kC(_c:Call)(P:ah)(call:Callee)(o:am)(R:ai.Fr)(W:AW):Option (ad×AW):=none
def kOO(_c _x:au)(P:ah)(call:Callee)(o:am)(R:ai.Fr)(W:AW):Option (ad×AW):=none
def ap4(_t:ag)(_c:au)(_ok:Bool)(P:ah)(call:Callee)(o:am)(R:ai.Fr)(W:AW):Option (ad×AW):=none
def afB(_cs:Array SelectCase)(_bl:Bool)(P:ah)(call:Callee)(o:am)(R:ai.Fr)(W:AW):Option (ad×AW):=none
def avA:Op->ah->Callee->am->ai.Fr->AW->Option (ad×AW):=
 Op.rec (motive:=λ_=>ah->Callee->am->ai.Fr->AW->Option (ad×AW)) aiX aiX aoK amk atS ajs Rj ahx aqo ake ap0 ap0 YE akA aqS aem kTO Jq Zn ach kTO T6 amK T9 akI Vs akh afI Vl at4 aox amM aq7 kO Sj ab9 apE kC kC kO kOO ap4 afB
def kOp(P:ah)(call:Callee)(o:am)(R:ai.Fr)(W:AW):Option (ad×AW):=avA o.op P call o R W
def Bo{P:ah}{R:ai.Fr}{o:am}(hs:Bc o.op=true):lg P R o=pA P (o.op.operands.toList.all λx=>bN (aE R x)) (execOp (aE R) o):=by unfold lg pA;rw[hs,gK];rfl
def all_map{α β:Type}(f:α->β)(p:β->Bool)(l:List α):(l.map f).all p=l.all λx=>p (f x):=by rw[List.all_map];rfl
def S6(P:ah)(call:Callee)(dst:Option Tmp)(b:Builtin)(args:Array au)(ts:Array ag)(ty:ag)(pos:String)(after:Array Edge)(guard:Option (Nat×Bool))(R:ai.Fr)(W:AW):
 aZ P b ts ty (args.map oq) (args.toList.map (aE R)) W=kY P ⟨dst,.call ⟨.builtin b,args,ts⟩,ty,pos,after,guard⟩ b ts (args.toList.map (aE R)) R W:=by
 have hf:pA P ((args.toList.map (aE R)).all bN) (builtin b ts ty (args.map oq) (args.toList.map (aE R)).toArray)=lg P R ⟨dst,.call ⟨.builtin b,args,ts⟩,ty,pos,after,guard⟩:=by
  rw[Bo rfl];have h1:((args.toList.map (aE R)).all bN)=((Op.call {callee:=Callee.builtin b,args:=args,argTypes:=ts}).operands.toList.all λx=>bN (aE R x)):=by
   rw[all_map];have:(Op.call {callee:=.builtin b,args:=args,argTypes:=ts}).operands=args:=by simp[Op.operands,Call.operands]
   rw[this]
  have h2:builtin b ts ty (args.map oq) (args.toList.map (aE R)).toArray=execOp (aE R) ⟨dst,.call ⟨.builtin b,args,ts⟩,ty,pos,after,guard⟩:=by
   have h4:args.map oq=args.map (λ|.const _=>true|_=>false):=by congr 1;funext x;cases x<;>rfl
   have h3:(args.toList.map (aE R)).toArray=args.map (aE R):=by apply qk.1;simp
   rw[h4,h3];symm;simp[execOp,resolve,invoke];rfl
  rw[h1,h2]
 unfold aZ kY;rw[hf];rfl
def W8:Op->Bool
 |.store .. =>true
 |_=>false
def aky(P:ah)(call:Callee)(o:am)(R:ai.Fr)(W:AW)(hs:W8 o.op=false):kOp P call o R W=vM P call o R W:=by
 rw[BA];obtain⟨dst,op,type,pos,after,guard⟩:=o;cases op with
 |store t a x=>cases hs
 |pick c a b=>rfl
 |alloc t=>show dg P t W=_;(simp only[js,LQ,dg,AW.dU];try rfl)
 |box t x=>show rD (aE R x) W=_;simp only[js,LQ,rD,AW.dU]
 |buildSlice t len ps=>show cX P t len (parts R ps) W=_;(simp only[js,LQ,cX,nG,AW.dU];try rfl)
 |binOp op t x y yt=>show bO P op t (oq x) (oq y) (aE R x) (aE R y) W=_;simp only[js,LQ,bO];rw[Bo rfl,<-MO];rfl
 |unOp op t x=>show oUn P op (aE R x) W=_;simp only[js,LQ,oUn];rw[Bo rfl];rfl
 |convert s d x=>show wu P s d (aE R x) W=_;simp only[js,LQ,wu];rw[Bo rfl];rfl
 |makeFunc fn a b=>cases fn<;>rfl
 |makeMap t r=>
  cases r with
  |none=>show vf P t none W=_;(simp only[js,LQ,vf,AW.dU];try rfl)
  |some r=>show vf P t (some (aE R r)) W=_;(simp only[js,LQ,vf,AW.dU];try rfl)
 |makeSlice t l c=>show gh P t (aE R l) (aE R c) W=_;(simp only[js,LQ,gh,pJ,AW.dU];try rfl)
 |slice t x lo hi mx=>
  show eP P t (aE R x) (lo.map (aE R)) (hi.map (aE R)) (mx.map (aE R)) W=_;simp only[js,LQ,eP];rw[Bo rfl];have:(aE R x::((lo.map (aE R)).toList++((hi.map (aE R)).toList++(mx.map (aE R)).toList))).all bN=((Op.slice t x lo hi mx).operands.toList.all λx=>bN (aE R x)):=by cases lo<;>cases hi<;>cases mx<;>simp[Op.operands]
  rw[this];rfl
 |index t x i=>show rf P t (aE R x) (aE R i) W=_;simp only[js,LQ,rf];rw[Bo rfl];rfl
 |range t x=>show Gj P t (aE R x) W=_;(simp only[js,LQ,Gj,AW.dU];try rfl)
 |next it s=>cases s<;>rfl
 |call c=>
  obtain⟨callee,args,ts⟩:=c;cases callee with
  |builtin b=>exact S6 P call dst b args ts type pos after guard R W
  |value f=>rfl
  |invoke r name=>rfl
 |_=>rfl
def TO{P:ah}{call:Callee}{o:am}{R:ai.Fr}{W:AW}{r:ad×AW}(h:kOp P call o R W=some r):vM P call o R W=some r:=by
 cases hs:W8 o.op with
 |false=>rw[<-aky P call o R W hs];exact h
 |true=>
  rw[BA];obtain⟨dst,op,type,pos,after,guard⟩:=o;cases op<;>(try cases hs);rename_i t a x;have h':(DE P W t (aE R a) (aE R x)).map (λW'=>(ak,W'))=some r:=h;simp only[js,LQ];cases hc:DE P W t (aE R a) (aE R x)with
  |none=>rw[hc]at h';cases h'
  |some W'=>rw[hc]at h';rw[VV hc];exact h'
def bu(x:ad)(W:AW):Option (ad×AW):=(match x with
 |.pointer (some a)=>(match aH W a.block with
  |some cs=>ahA cs a.off
  |none=>none)
 |_=>none).map λv=>(v,W)
def dF(n:Nat)(x:ad)(W:AW):Option (ad×AW):=(match x with
 |.pointer (some a)=>(pD W a.block a.off n).map λ(l:List ad)=>Value.agg l.toArray
 |_=>none).map λv=>(v,W)
def fm(n:Nat)(x v:ad)(W:AW):Option (ad×AW):=(match x with
 |.pointer (some a)=>if v.cells.size=n then E5 W a.block a.off v.cells.toList else none
 |_=>none).map λW'=>(ak,W')
def gO(off:Nat)(x:ad)(W:AW):Option (ad×AW):=match x with
 |.pointer (some a)=>some (.pointer (some (a.add off)),W)
 |_=>none
def nY(z:Nat)(x i:ad)(W:AW):Option (ad×AW):=match x,kJ i with
 |.slice (some a) len _,some n=>if n<len then some (.pointer (some (a.add (n*z))),W)else none
 |_,_=>none
def ixA(len z:Nat)(x i:ad)(W:AW):Option (ad×AW):=match x,kJ i with
 |.pointer (some a),some n=>if n<len then some (.pointer (some (a.add (n*z))),W)else none
 |_,_=>none
end
section
variable [ai]
def aqs:∃f:(∀(α ρ:Type),Option α->(α->Option ρ)->Option ρ),f=λ_ _ x g=>x.bind g:=⟨_,rfl⟩
def eY{α ρ:Type}(x:Option α)(g:α->Option ρ):Option ρ:=Classical.choose aqs α ρ x g
def Lk{α ρ:Type}(x:Option α)(g:α->Option ρ):eY x g=x.bind g:=by unfold eY;rw[xO aqs]
abbrev KT(ρ:Type):=X->ai.Fr->AW->Option ρ
abbrev LT:=X×ai.Fr×AW
def sW(v:ad)(w:Bool):Bool:=match v with|.bool b=>b==w|_=>false
def S3(ops:Array am)(R:ai.Fr)(o:am):Bool:=match o.guard with
 |none=>true
 |some (j,w)=>match(ops[j]?).bind (·.dst)with
  |some t=>sW (du R t) w
  |none=>false
def Rb(ops:Array am)(R:ai.Fr)(o:am):S3 ops R o=jA ops R o:=by
 unfold S3 jA;cases o.guard with
 |none=>rfl
 |some p=>obtain⟨j,w⟩:=p;simp only;cases(ops[j]?).bind (·.dst)<;>rfl
def qR{ρ:Type}(c:Bool)(a b:ρ):ρ:=Bool.rec (motive:=λ_=>ρ) b a c
def yf(P:ah)(call:Callee)(ops:Array am)(o:am)(R:ai.Fr)(W:AW):Option (ad×AW):=
 qR (S3 ops R o) (kOp P call o R W) (some (ak,W))
def mvO:Op->Option au:=Op.rec (motive:=λ_=>Option au) some some (λ_ _ _=>none) (λ_=>none) (λ_ _=>none) (λ_ _=>none) (λ_ _ _=>none) (λ_ _ _ _=>none) (λ_ _=>none) (λ_ _ _=>none) (λ_=>none) (λ_=>none) (λ_=>none) (λ_ _ _ _ _=>none) (λ_ _ _=>none) (λ_ _ _=>none) (λ_ _=>none) (λ_ _=>none) (λ_ _ _=>none) (λ_ _=>none) (λ_ _=>none) (λ_ _ _=>none) (λ_ _ _ _ _=>none) (λ_ _ _=>none) (λ_ _ _=>none) (λ_ _ _=>none) (λ_ _ _=>none) (λ_ _ _ _=>none) (λ_ _ _ _=>none) (λ_ _ _=>none) (λ_ _ _ _=>none) (λ_ _=>none) (λ_ _=>none) (λ_=>none) (λ_ _ _ _=>none) (λ_ _=>none) (λ_=>none) (λ_=>none) (λ_=>none) (λ_=>none) (λ_ _=>none) (λ_ _ _=>none) (λ_ _=>none)
def mvG(o:am):Option au:=Option.rec (motive:=λ_=>Option au) (mvO o.op) (λ_=>none) o.guard
def Qy(P:ah)(call:Callee)(ops:Array am){ρ:Type}(K:ai.Fr->AW->Option ρ)(l:List am):ai.Fr->AW->Option ρ:=
 List.rec (motive:=λ_=>ai.Fr->AW->Option ρ) (λR W=>K R W) (λo _ ih R W=>Option.rec (motive:=λ_=>Option ρ) (eY (yf P call ops o R W) λr=>ih (iJ R o.dst r.1) r.2) (λx=>ih (iJ R o.dst (aE R x)) W) (mvG o)) l
def jP(w:Bool)(r:Option (ad×AW))(v:ad):Bool:=qR w (match r with|some (u,_)=>iw u v|none=>false) true
def agN(w:Bool)(r:Option (ad×AW)):Bool:=qR w r.isSome true
def Fq(P:ah)(call:Callee)(ops:Array am)(R:ai.Fr)(W:AW)(j:Nat):Bool:=match ops[j]? with
 |none=>false
 |some o=>match o.dst with
  |some t=>jP (S3 ops R o) (kOp P call o R W) (du R t)
  |none=>agN (S3 ops R o) (kOp P call o R W)
def RJ(P:ah)(call:Callee)(ops:Array am){ρ:Type}(K:ai.Fr->AW->Option ρ)(l:List (Nat×List Nat)):ai.Fr->AW->Option ρ:=
 List.rec (motive:=λ_=>ai.Fr->AW->Option ρ) (λR W=>K R W) (λp _ ih R W=>match ops[p.1]? with
  |none=>none
  |some o=>Option.rec (motive:=λ_=>Option ρ) (eY (yf P call ops o R W) λr=>qR (p.2.all (Fq P call ops (iJ R o.dst r.1) r.2)) (ih (iJ R o.dst r.1) r.2) none) (λx=>ih (iJ R o.dst (aE R x)) W) (List.rec (motive:=λ_=>Option au) (mvG o) (λ_ _ _=>none) p.2)) l
def yl{ρ:Type}(x:X)(a b:Option ρ):Option ρ:=X.rec (motive:=λ_=>Option ρ) a (λ_=>b) b x
def B9{ρ:Type}(id:Nat)(x:X)(a b:Option ρ):Option ρ:=X.rec (motive:=λ_=>Option ρ) b (λi=>qR (Nat.beq i id) a b) b x
def amf{ρ:Type}(x:X)(a:Option ρ):Option ρ:=X.rec (motive:=λ_=>Option ρ) a (λ_=>none) a x
def Qg{ρ:Type}(v:ad)(a b:Option ρ):Option ρ:=match v with|.bool c=>qR c a b|_=>none
abbrev CT:=∀ρ:Type,ai.Fr->AW->KT ρ->Option ρ
def np:KT LT:=λx R W=>some (x,R,W)
def akZ:CT:=λ_ R W K=>K .normal R W
def Jj(P:ah)(call:Callee)(id:Nat)(ops:Array am)(Gh:Bool):CT:=λ_ R W K=>match Gh with
 |false=>Qy P call ops (K .normal) ops.toList R W
 |true=>match ai.D id ops with
  |none=>Qy P call ops (K .normal) ops.toList R W
  |some pl=>RJ P call ops (K .normal) pl R W
def apH(_ _:bV)(ia ib:CT):CT:=λρ R W K=>ia ρ R W λx R' W'=>X.rec (motive:=λ_=>Option ρ) (ib ρ R' W' K) (λ_=>K x R' W') (K x R' W') x
def akz(c:au)(_ _:bV)(ia ib:CT):CT:=λρ R W K=>Qg (aE R c) (ia ρ R W K) (ib ρ R W K)
def afu(id:Nat)(_:bV)(ib:CT):CT:=λρ R W K=>ib ρ R W λx R' W'=>X.rec (motive:=λ_=>Option ρ) (K x R' W') (λi=>Bool.rec (motive:=λ_=>Option ρ) (K x R' W') (K .normal R' W') (Nat.beq i id)) (K x R' W') x
def an7(i:Nat):List Nat->List Nat:=List.rec [i] λx l ih=>Bool.rec (x::ih) (x::l) (Nat.beq x i)
def TF(a b:List Nat):List Nat:=List.rec b (λx _ ih=>an7 x ih) a
def aoq(i:Nat)(a:List Nat):List Nat:=List.rec [] (λx _ ih=>Bool.rec (x::ih) ih (Nat.beq x i)) a
def Z7:bV->List Nat×Bool:=
 Code.rec (motive:=λ_=>List Nat×Bool) ([],false) (λ_ _ _=>([],false)) (λ_ _ a b=>(TF a.1 b.1,a.2||b.2)) (λ_ _ _ a b=>(TF a.1 b.1,a.2||b.2)) (λi _ b=>(aoq i b.1,b.2)) (λ_ b=>b)
  (λ_ _ _ _ a b=>(TF a.1 b.1,a.2||b.2)) (λi=>([i],false)) (λ_ b=>b) (λ_=>([],false)) (λ_=>([],false)) ([],true) (λ_=>([],false))
def Kt{ρ:Type}(x:X)(a:Option ρ):Option ρ:=X.rec (motive:=λ_=>Option ρ) none (λ_=>none) a x
def zY{ρ:Type}(x:X)(k:X->Option ρ)(ret:Bool)(l:List Nat):Option ρ:=
 List.rec (motive:=λ_=>Option ρ) (qR ret (Kt x (k .ret)) none) (λi _ ih=>B9 i x (k (.exit i)) ih) l
def pU{ρ:Type}{x:X}{k:X->Option ρ}{ret:Bool}{r:ρ}:∀{l:List Nat},zY x k ret l=some r->k x=some r
 |[],h=>by
  cases ret with
  |false=>cases h
  |true=>cases x<;>first|exact h|cases h
 |i::l,h=>by
  cases x with
  |normal=>exact pU (l:=l) h
  |ret=>exact pU (l:=l) h
  |exit j=>
   have h':qR (Nat.beq j i) (k (.exit i)) (zY (.exit j) k ret l)=some r:=h;cases hb:Nat.beq j i with
   |true=>rw[hb]at h';have:=A5 hb;subst this;exact h'
   |false=>rw[hb]at h';exact pU (l:=l) h'
def ait:∃f:(ai.Fr->AW->Option LT)->Nat->ai.Fr->AW->Option LT,f=mP:=⟨mP,rfl⟩
def fV:(ai.Fr->AW->Option LT)->ai.Fr->AW->Option LT:=λf=>Classical.choose ait f 1000000
def SO(f:ai.Fr->AW->Option LT):fV f=mP f 1000000:=by unfold fV;rw[xO ait]
def alx(b:bV)(ib:CT):CT:=λ_ R W K=>eY (fV (λR W=>ib LT R W np) R W) λr=>zY r.1 (λx=>K x r.2.1 r.2.2) (Z7 b).2 (Z7 b).1
def kX(call:Callee)(f:ad)(obj:dH)(W:AW):Option (X×AW):=match f with
 |.func (.func i) fs cs=>match call (.func (.func i) fs cs) [.func (.yield W.next) #[] #[]] (W.add obj)with
  |some (_,W2)=>match W2.get W.next with
   |some (.loop st qL _ _ _ _ _)=>(match st with
    |.busy=>none
    |_=>match qL with
     |none=>some (.normal,W2.kill W.next)
     |some (.exit i)=>some (.exit i,W2.kill W.next)
     |some .ret=>some (.ret,W2.kill W.next)
     |_=>none)
   |_=>none
  |none=>none
 |_=>none
def OS(call:Callee)(top:Bool)(nt:Nat)(f:au)(ps:Array Tmp)(aB4 bd:bV)(_ _:CT):CT:=λ_ R W K=>match top with
 |false=>none
 |true=>eY (kX call (aE R f) (.loop .ready none R nt ps aB4 bd) W) λr=>yl r.1 (K .normal R r.2) (zY r.1 (λx=>K x R r.2) (Z7 bd).2 (Z7 bd).1)
def alz(id:Nat):CT:=λ_ R W K=>K (.exit id) R W
def aoG:CT:=λ_ R W K=>K .ret R W
def af0(_:Nat):CT:=λ_ R W K=>K .normal R W
def alB(_:Nat):CT:=λ_ _ _ _=>none
def ahX(_:bV)(_:CT):CT:=λ_ _ _ _=>none
def aas(_:String):CT:=λ_ _ _ _=>none
def fW(P:ah)(call:Callee)(top:Bool)(nt:Nat):bV->CT:=
 Code.rec (motive:=λ_=>CT) akZ (Jj P call) apH akz afu alx (OS call top nt) alz ahX af0 alB aoG aas
section
variable {P:ah} {call:Callee}
def Jy{ops:Array am}{o:am}{R:ai.Fr}{W:AW}{r:ad×AW}(h:yf P call ops o R W=some r):nK P call ops o R W=some (iJ R o.dst r.1,r.2):=by
 unfold yf at h;unfold nK;rw[Rb]at h;cases hw:jA ops R o with
 |true=>rw[hw]at h;rw[an rfl];have h':kOp P call o R W=some r:=h;rw[TO h']
 |false=>rw[hw]at h;rw[aq (by simp)];have h':some (ak,W)=some r:=h;injection h' with h';subst h';rfl
def acf{op:Op}{x:au}(h:mvO op=some x):op=.move x\/op=.assign x:=by cases op<;>first|(injection h with h;subst h;first|exact .inl rfl|exact .inr rfl)|cases h
def XD{ops:Array am}{o:am}{R:ai.Fr}{W:AW}{x:au}(h:mvG o=some x):nK P call ops o R W=some (iJ R o.dst (aE R x),W):=by
 have hk:yf P call ops o R W=some (aE R x,W):=by
  obtain⟨dst,op,type,pos,after,guard⟩:=o;cases guard with
  |some g=>cases h
  |none=>rcases acf h with rfl|rfl<;>rfl
 rw[Jy hk]
def WX{ops:Array am}{ρ:Type}{K:ai.Fr->AW->Option ρ}{r:ρ}:∀(l:List am) (R:ai.Fr) (W:AW),Qy P call ops K l R W=some r->(tL P call ops l R W).bind (λq=>K q.1 q.2)=some r:=by
 intro l;induction l with
 |nil=>intro R W h;exact h
 |cons o l ih=>
  intro R W h;cases hm:mvG o with
  |some x=>have h':Option.rec (motive:=λ_=>Option ρ) (eY (yf P call ops o R W) λr=>Qy P call ops K l (iJ R o.dst r.1) r.2) (λx=>Qy P call ops K l (iJ R o.dst (aE R x)) W) (mvG o)=some r:=h;rw[hm]at h';rw[tL,XD hm];exact ih _ _ h'
  |none=>
  have h0:Option.rec (motive:=λ_=>Option ρ) (eY (yf P call ops o R W) λr=>Qy P call ops K l (iJ R o.dst r.1) r.2) (λx=>Qy P call ops K l (iJ R o.dst (aE R x)) W) (mvG o)=some r:=h;rw[hm]at h0;have h':eY (yf P call ops o R W) (λr=>Qy P call ops K l (iJ R o.dst r.1) r.2)=some r:=h0;rw[Lk]at h';cases hk:yf P call ops o R W with
  |none=>rw[hk]at h';cases h'
  |some q=>rw[hk]at h';rw[tL,Jy hk];exact ih _ _ h'
def Zv{ops:Array am}{R:ai.Fr}{W:AW}(j:Nat)(h:Fq P call ops R W j=true):ur P call ops R W j=true:=by
 unfold Fq at h;unfold ur;cases ho:ops[j]? with
 |none=>rw[ho]at h;cases h
 |some o=>
  rw[ho]at h;simp only at h|-;rw[Rb]at h;cases hd:o.dst with
  |none=>
   rw[hd]at h;simp only[agN]at h;simp only;cases hw:jA ops R o with
   |false=>rfl
   |true=>rw[hw]at h;have h':(kOp P call o R W).isSome=true:=h;obtain⟨q,hq⟩:=Option.isSome_iff_exists.1 h';rw[TO hq];rfl
  |some t=>
   rw[hd]at h;simp only[jP]at h;simp only;cases hw:jA ops R o with
   |false=>rfl
   |true=>
    rw[hw]at h;have h':(match kOp P call o R W with|some (u,_)=>iw u (du R t)|none=>false)=true:=h;cases hq:kOp P call o R W with
    |none=>rw[hq]at h';cases h'
    |some q=>rw[hq]at h';rw[TO hq];exact h'
def abb{ops:Array am}{ρ:Type}{K:ai.Fr->AW->Option ρ}{r:ρ}:∀(l:List (Nat×List Nat)) (R:ai.Fr) (W:AW),RJ P call ops K l R W=some r->(mJ P call ops l R W).bind (λq=>K q.1 q.2)=some r:=by
 intro l;induction l with
 |nil=>intro R W h;exact h
 |cons p l ih=>
  intro R W h;obtain⟨i,re⟩:=p
  have h0:(match ops[i]? with
   |none=>none
   |some o=>Option.rec (motive:=λ_=>Option ρ) (eY (yf P call ops o R W) λr=>qR (re.all (Fq P call ops (iJ R o.dst r.1) r.2)) (RJ P call ops K l (iJ R o.dst r.1) r.2) none) (λx=>RJ P call ops K l (iJ R o.dst (aE R x)) W) (List.rec (motive:=λ_=>Option au) (mvG o) (λ_ _ _=>none) re))=some r:=h;rw[mJ];cases ho:ops[i]? with
  |none=>rw[ho]at h0;cases h0
  |some o=>
   rw[ho]at h0;simp only at h0|-;cases hm:(List.rec (motive:=λ_=>Option au) (mvG o) (λ_ _ _=>none) re:Option au)with
   |some x=>
    rw[hm]at h0;cases re with
    |cons _ _=>cases hm
    |nil=>rw[XD hm];exact ih _ _ h0
   |none=>
   rw[hm]at h0;have h':eY (yf P call ops o R W) (λr=>qR (re.all (Fq P call ops (iJ R o.dst r.1) r.2)) (RJ P call ops K l (iJ R o.dst r.1) r.2) none)=some r:=h0;rw[Lk]at h';cases hk:yf P call ops o R W with
   |none=>rw[hk]at h';cases h'
   |some q=>
    rw[hk]at h';rw[Jy hk];simp only[bM]at h'|-;cases ha:re.all (Fq P call ops (iJ R o.dst q.1) q.2)with
    |false=>rw[ha]at h';cases h'
    |true=>
     rw[ha]at h';have:re.all (ur P call ops (iJ R o.dst q.1) q.2)=true:=by rw[dd]at ha|-;exactλj hj=>Zv j (ha j hj)
     rw[an this];exact ih _ _ h'
def KN{f g:ai.Fr->AW->Option LT}(h:∀R W r,f R W=some r->g R W=some r):∀(n:Nat) (R:ai.Fr) (W:AW) (r:LT),mP f n R W=some r->mP g n R W=some r:=by
 intro n;induction n with
 |zero=>intro R W r hr;cases hr
 |succ n ih=>
  intro R W r hr;unfold mP at hr|-;cases hf:f R W with
  |none=>rw[hf]at hr;cases hr
  |some q=>
   rw[h _ _ _ hf];rw[hf]at hr;obtain⟨x,R',W'⟩:=q;cases x with
   |normal=>exact ih _ _ _ hr
   |exit i=>exact hr
   |ret=>exact hr
def SG{top:Bool}{nt:Nat}:∀(c:bV) (ρ:Type) (R:ai.Fr) (W:AW) (K:KT ρ) (r:ρ),fW P call top nt c ρ R W K=some r->(cy P call top nt c R W).bind (λr=>K r.1 r.2.1 r.2.2)=some r:=by
 intro c;induction c with
 |skip=>intro ρ R W K r h;exact h
 |label l=>intro ρ R W K r h;exact h
 |exit id=>intro ρ R W K r h;exact h
 |ret=>intro ρ R W K r h;exact h
 |goto l=>intro ρ R W K r h;exact h
 |scope b _=>intro ρ R W K r h;cases h
 |refuse s=>intro ρ R W K r h;cases h
 |region id ops Gh=>
  intro ρ R W K r h;have h:Jj P call id ops Gh ρ R W K=some r:=h;unfold Jj at h;unfold cy;cases Gh with
  |false=>
   simp only at h|-;have:=WX _ _ _ h;cases ha:tL P call ops ops.toList R W with
   |none=>rw[ha]at this;cases this
   |some q=>rw[ha]at this;exact this
  |true=>
   simp only at h|-;cases hd:ai.D id ops with
   |none=>
    rw[hd]at h;simp only at h|-;have:=WX _ _ _ h;cases ha:tL P call ops ops.toList R W with
    |none=>rw[ha]at this;cases this
    |some q=>rw[ha]at this;exact this
   |some pl=>
    rw[hd]at h;simp only at h|-;have:=abb _ _ _ h;cases ha:mJ P call ops pl R W with
    |none=>rw[ha]at this;cases this
    |some q=>rw[ha]at this;exact this
 |seq a b iha Tw=>
  intro ρ R W K r h;have h1:=iha ρ R W _ r h;rw[cy];cases ha:cy P call top nt a R W with
  |none=>rw[ha]at h1;cases h1
  |some q=>
   rw[ha]at h1;obtain⟨x,R',W'⟩:=q;cases x with
   |normal=>exact Tw _ _ _ _ _ h1
   |exit i=>exact h1
   |ret=>exact h1
 |cond c a b iha Tw=>
  intro ρ R W K r h;have h':Qg (aE R c) (fW P call top nt a ρ R W K) (fW P call top nt b ρ R W K)=some r:=h;rw[cy];cases hc:aE R c with
  |bool d=>
   rw[hc]at h';cases d with
   |true=>exact iha _ _ _ _ _ h'
   |false=>exact Tw _ _ _ _ _ h'
  |_=>rw[hc]at h';cases h'
 |block id b ih=>
  intro ρ R W K r h;have h1:=ih ρ R W _ r h;rw[cy];cases ha:cy P call top nt b R W with
  |none=>rw[ha]at h1;cases h1
  |some q=>
   rw[ha]at h1;obtain⟨x,R',W'⟩:=q;cases x with
   |normal=>exact h1
   |ret=>exact h1
   |exit i=>
    have h2:qR (Nat.beq i id) (K .normal R' W') (K (.exit i) R' W')=some r:=h1;by_cases hi:i=id
    ·subst hi;rw[uC]at h2;simp only[bi,bM];exact h2
    ·have:Nat.beq i id=false:=by
      cases hb:Nat.beq i id with
      |true=>exact absurd (A5 hb) hi
      |false=>rfl
     rw[this]at h2;simp only[aq hi,bM];exact h2
 |loop b ih=>
  intro ρ R W K r h;have h':eY (fV (λR W=>fW P call top nt b LT R W np) R W) (λq=>zY q.1 (λx=>K x q.2.1 q.2.2) (Z7 b).2 (Z7 b).1)=some r:=h;rw[Lk,SO]at h';cases hl:mP (λR W=>fW P call top nt b LT R W np) 1000000 R W with
  |none=>rw[hl]at h';cases h'
  |some q=>
   rw[hl]at h';have:=KN (g:=cy P call top nt b) (λR W q hq=>by
    have:=ih LT R W np q hq;cases ha:cy P call top nt b R W with
    |none=>rw[ha]at this;cases this
    |some q'=>rw[ha]at this;exact this) _ _ _ _ hl;rw[cy,this];exact pU (show zY q.1 (λx=>K x q.2.1 q.2.2) (Z7 b).2 (Z7 b).1=some r from h')
 |rangeFunc f ps aB4 bd _ _=>
  intro ρ R W K r h;have h':OS call top nt f ps aB4 bd (fW P call top nt aB4) (fW P call top nt bd) ρ R W K=some r:=h;unfold OS at h';cases top with
  |false=>cases h'
  |true=>
   simp only[Lk]at h';have h2:(kX call (aE R f) (.loop .ready none R nt ps aB4 bd) W).bind (λq=>K q.1 R q.2)=some r:=by
    cases ho:kX call (aE R f) (.loop .ready none R nt ps aB4 bd) W with
    |none=>rw[ho]at h';cases h'
    |some q=>
     rw[ho]at h';obtain⟨x,W'⟩:=q;cases x with
     |normal=>exact h'
     |exit i=>exact pU (show zY (.exit i) (λx=>K x R W') (Z7 bd).2 (Z7 bd).1=some r from h')
     |ret=>exact pU (show zY .ret (λx=>K x R W') (Z7 bd).2 (Z7 bd).1=some r from h')
   rw[<-h2];unfold cy kX;simp only;cases aE R f with
   |func fn fs cs=>
    cases fn with
    |func i=>
     simp only[AW.dU];cases call (.func (.func i) fs cs) [.func (.yield W.next) #[] #[]] (W.add (.loop .ready none R nt ps aB4 bd))with
     |none=>rfl
     |some r=>
      obtain⟨v,W2⟩:=r;simp only;cases W2.get W.next with
      |none=>rfl
      |some obj=>
       cases obj with
       |loop st qL tm n p a b=>
        cases st<;>simp only<;>(cases qL with
         |none=>rfl
         |some c=>cases c<;>rfl)
       |_=>rfl
    |_=>rfl
   |_=>rfl
def Nn{top:Bool}{nt:Nat}{c:bV}{R:ai.Fr}{W:AW}{r:LT}(h:fW P call top nt c LT R W np=some r):cy P call top nt c R W=some r:=by
 have:=SG c LT R W np r h;cases ha:cy P call top nt c R W with
 |none=>rw[ha]at this;cases this
 |some q=>rw[ha]at this;exact this
end
def wg(P:ah)(W:AW):List (ad×Option ag)->Option (List ad)
 |[]=>some []
 |(v,none)::l=>match wg P W l with
  |some vs=>some (v::vs)
  |none=>none
 |(a,some t)::l=>match lR P W t a with
  |some v=>match wg P W l with
   |some vs=>some (v::vs)
   |none=>none
  |none=>none
def iP(P:ah)(l:List (ad×Option ag))(W:AW):Option (ad×AW):=match wg P W l with
 |some [v]=>some (v,W)
 |some vs=>some (.tuple vs.toArray,W)
 |none=>none
def rv(R:ai.Fr):ResultVar->ad×Option ag:=ResultVar.rec (λt=>(du R t,none)) (λa t=>(du R a,some t))
def K7(P:ah)(W:AW)(R:ai.Fr):∀l:List ResultVar,L0 P W R l=wg P W (l.map (rv R))
 |[]=>rfl
 |.tmp t::l=>by show(match L0 P W R l with|some vs=>some (du R t::vs)|none=>none)=(match wg P W (l.map (rv R))with|some vs=>some (du R t::vs)|none=>none);rw[K7 P W R l]
 |.cell a t::l=>by show(match lR P W t (du R a)with|some v=>(match L0 P W R l with|some vs=>some (v::vs)|none=>none)|none=>none)=(match lR P W t (du R a)with|some v=>(match wg P W (l.map (rv R))with|some vs=>some (v::vs)|none=>none)|none=>none);rw[K7 P W R l]
def aa0(P:ah)(call:Callee)(nt:Nat)(c:bV)(rs:Array ResultVar)(avq:List ad)(W:AW):Option (ad×AW):=
 fW P call true nt c (ad×AW) (cz 0 avq ai.blank) W λx R W'=>X.rec (motive:=λ_=>Option (ad×AW)) (iP P (rs.toList.map (rv R)) W') (λ_=>none) (iP P (rs.toList.map (rv R)) W') x
def Ye{P:ah}{bad:List Nat}{spec call:Callee}{i:Nat}{fn:iv}{c:bV}(hb:P8 i bad=false)(hf:P.funcs[i]? =some fn)(hc:fn.body=some c){fs cs:Array ad}{args:List ad}
 (hn:Nat.ble (fs.toList.length+(args.length+cs.toList.length)) fn.ntmps=true){W:AW}{r:ad×AW}(h:aa0 P call fn.ntmps c fn.results (fs.toList++(args++cs.toList)) W=some r):
 nL P bad spec call (.func (.func i) fs cs) args W=some r:=by
 unfold aa0 at h;have h1:=SG _ _ _ _ _ _ h;unfold nL;simp only[hb,hf,hc,hn];cases ha:cy P call true fn.ntmps c (cz 0 (fs.toList++(args++cs.toList)) ai.blank) W with
 |none=>rw[ha]at h1;cases h1
 |some q=>
  rw[ha]at h1;obtain⟨x,R,W'⟩:=q;simp only[bM]at h1;rw[<-h1];unfold vV iP;simp only[K7];cases x with
  |exit id=>rfl
  |normal=>simp only[];rcases wg P W' (fn.results.toList.map (rv R))with _|_|⟨v,_|⟨u,l⟩⟩<;>rfl
  |ret=>simp only[];rcases wg P W' (fn.results.toList.map (rv R))with _|_|⟨v,_|⟨u,l⟩⟩<;>rfl
def OJ(P:ah)(call:Callee)(l:Nat)(nt:Nat)(aB4 bd:bV)(R:ai.Fr)(W:AW):Option (ad×AW):=
 (fW P call false nt aB4 LT R W np).bind λr1=>yl r1.1 (match r1.2.2.get l with
  |some (.loop .ready pd9 R9 WL Xx Wk Xq)=>(fW P call false nt bd LT r1.2.1 (r1.2.2.put l (.loop .busy pd9 R9 WL Xx Wk Xq)) np).bind λr2=>(match r2.2.2.get l with
   |some (.loop _ _ R8 nt8 ps8 as8 bd8)=>(match r2.1 with
    |.normal=>some (.bool true,r2.2.2.put l (.loop .ready none R8 nt8 ps8 as8 bd8))
    |x=>some (.bool false,r2.2.2.put l (.loop .done x.jump R8 nt8 ps8 as8 bd8)))
   |_=>none)
  |_=>none) none
def SJ{P:ah}{bad:List Nat}{spec call:Callee}{l nt:Nat}{R:ai.Fr}{ps:Array Tmp}{aB4 bd:bV}{W:AW}(hl:W.get l=some (.loop .ready none R nt ps aB4 bd)){fs cs:Array ad}{args:List ad}(hn:fs.toList.length+args.length=ps.size)
 {r:ad×AW}(h:OJ P call l nt aB4 bd (nS ps.toList (fs.toList++args) R) W=some r):
 nL P bad spec call (.func (.yield l) fs cs) args W=some r:=by
 unfold OJ at h;have hb:Nat.beq (fs.toList.length+args.length) ps.size=true:=by rw[hn];exact uC _
 unfold nL;simp only[hl,hb];cases h1:fW P call false nt aB4 LT (nS ps.toList (fs.toList++args) R) W np with
 |none=>rw[h1]at h;cases h
 |some q=>
  rw[h1]at h;rw[Nn h1];obtain⟨x,R1,W1⟩:=q;simp only[bM]at h;cases x with
  |exit id=>cases h
  |ret=>cases h
  |normal=>
   simp only[yl]at h|-;cases hg:W1.get l with
   |none=>rw[hg]at h;cases h
   |some obj=>
    rw[hg]at h;cases obj with
    |loop st pd9 R9 WL Xx Wk Xq=>
     cases st with
     |ready=>
      simp only at h|-;cases h2:fW P call false nt bd LT R1 (W1.put l (.loop .busy pd9 R9 WL Xx Wk Xq)) np with
      |none=>rw[h2]at h;cases h
      |some q2=>
       rw[h2]at h;rw[Nn h2];obtain⟨x2,R2,W2⟩:=q2;simp only[bM]at h|-;cases rJ:W2.get l with
       |none=>rw[rJ]at h;cases h
       |some auf=>
        rw[rJ]at h;cases auf with
        |loop st8 pd8 R8 nt8 ps8 as8 bd8=>cases x2<;>exact h
        |_=>cases h
     |_=>cases h
    |_=>cases h
end
def ab7(R:Nat->ad)(t:Nat)(v:ad):Nat->ad:=λu=>Bool.rec (motive:=λ_=>ad) (R u) v (Nat.beq u t)
def ak4:Nat->ad:=λ_=>ak
def X2(R:Nat->ad)(t:Nat)(v:ad):ab7 R t v t=v:=by unfold ab7;rw[uC]
def agQ(R:Nat->ad)(t u:Nat)(v:ad)(h:t≠u):ab7 R t v u=R u:=by
 unfold ab7;have:Nat.beq u t=false:=by
  cases hb:Nat.beq u t with
  |true=>exact absurd (A5 hb).symm h
  |false=>rfl
 rw[this]
@[reducible] noncomputable def ak8 (D:Nat->Array am->Option (List (Nat×List Nat))) (ng:List Nat) (ex:ag->Bool:=λ_=>false):ai where
 D:=D
 ex:=ex
 ng:=ng
 Fr:=Nat->ad
 KM:=λR t=>R t
 acT:=ab7
 blank:=ak4
 oQ:=X2
 iE:=agQ
 Gs:=λ_=>rfl
def aqM(g:Nat):ad:=.pointer (some ⟨g,0,none⟩)
def wI(f:jD):ad:=.func (.func f) #[] #[]
def akB(l:List Nat):ByteArray:=⟨(l.map UInt8.ofNat).toArray⟩
def Ig(l:List Nat):ad:=.string (akB l)
def Ow(P:ah)(i:Nat):bV:=match P.funcs[i]? with
 |some fn=>(match fn.body with
  |some c=>c
  |none=>.skip)
 |none=>.skip
def acR(P:ah)(i:Nat):Array ResultVar:=match P.funcs[i]? with
 |some fn=>fn.results
 |none=>#[]
def BP:List Nat->bV->bV
 |[],c=>c
 |n::p,c=>match c with
  |.seq a b=>BP p (if n=0 then a else b)
  |.cond _ a b=>BP p (if n=0 then a else b)
  |.rangeFunc _ _ a b=>BP p (if n=0 then a else b)
  |.block _ b=>BP p b
  |.loop b=>BP p b
  |.scope b=>BP p b
  |_=>.skip
section
variable [ai]
def RV(c d:Callee):Prop:=∀f a W r,c f a W=some r->d f a W=some r
def RV.refl(c:Callee):RV c c:=λ_ _ _ _ h=>h
def RV.trans{a b c:Callee}(h:RV a b)(k:RV b c):RV a c:=λf x W r e=>k _ _ _ _ (h _ _ _ _ e)
section
variable {P:ah}
def Sr(P:ah)(o:am)(R:ai.Fr)(W:AW):(∀c d:Callee,vM P c o R W=vM P d o R W)\/∃f a,∀c:Callee,vM P c o R W=c f a W:=by
 simp only[BA];obtain⟨dst,op,type,pos,after,guard⟩:=o;cases op with
 |call k=>
  obtain⟨callee,args,ts⟩:=k;cases callee with
  |builtin b=>exact .inl λ_ _=>rfl
  |value f=>exact .inr ⟨_,_,λ_=>rfl⟩
  |invoke r name=>
   simp only[js];cases aE R r with
   |iface t v=>
    simp only;cases vW P t name with
    |none=>exact .inl λ_ _=>rfl
    |some f=>exact .inr ⟨_,_,λ_=>rfl⟩
   |_=>exact .inl λ_ _=>rfl
 |_=>exact .inl λ_ _=>rfl
def XA{c d:Callee}(h:RV c d){o:am}{R:ai.Fr}{W:AW}{r:ad×AW}(e:vM P c o R W=some r):vM P d o R W=some r:=by
 rcases Sr P o R W with hd|⟨f,a,hd⟩
 ·rw[<-e];exact hd _ _
 ·rw[hd]at e|-;exact h _ _ _ _ e
def DX{c d:Callee}(h:RV c d){ops:Array am}{o:am}{R:ai.Fr}{W:AW}{r:ai.Fr×AW}(e:nK P c ops o R W=some r):nK P d ops o R W=some r:=by
 unfold nK at e|-;split
 ·rename_i hw;rw[an hw]at e;cases ho:vM P c o R W with
  |none=>rw[ho]at e;cases e
  |some q=>rw[ho]at e;rw[XA h ho];exact e
 ·rename_i hw;rw[aq hw]at e;exact e
def Om{c d:Callee}(h:RV c d){ops:Array am}:∀{l:List am} {R:ai.Fr} {W:AW} {r:ai.Fr×AW},tL P c ops l R W=some r->tL P d ops l R W=some r:=by
 intro l;induction l with
 |nil=>intro R W r e;exact e
 |cons o l ih=>
  intro R W r e;rw[tL]at e|-;cases hs:nK P c ops o R W with
  |none=>rw[hs]at e;cases e
  |some q=>rw[hs]at e;rw[DX h hs];exact ih e
def D2{c d:Callee}(h:RV c d){ops:Array am}{R:ai.Fr}{W:AW}{j:Nat}(e:ur P c ops R W j=true):ur P d ops R W j=true:=by
 unfold ur at e|-;cases hj:ops[j]? with
 |none=>rw[hj]at e;cases e
 |some o=>
  rw[hj]at e;simp only at e|-;split
  ·rename_i hw;rw[an hw]at e;cases ho:vM P c o R W with
   |none=>rw[ho]at e;cases e
   |some q=>rw[ho]at e;rw[XA h ho];exact e
  ·rfl
def S2{c d:Callee}(h:RV c d){ops:Array am}:∀{l:List (Nat×List Nat)} {R:ai.Fr} {W:AW} {r:ai.Fr×AW},mJ P c ops l R W=some r->mJ P d ops l R W=some r:=by
 intro l;induction l with
 |nil=>intro R W r e;exact e
 |cons p l ih=>
  intro R W r e;obtain⟨i,re⟩:=p;rw[mJ]at e|-;cases hi:ops[i]? with
  |none=>rw[hi]at e;cases e
  |some o=>
   rw[hi]at e;simp only at e|-;cases hs:nK P c ops o R W with
   |none=>rw[hs]at e;cases e
   |some q=>
    rw[hs]at e;rw[DX h hs];simp only at e|-;split at e
    ·rename_i hr;rw[an (dd.2 λj hj=>D2 h (dd.1 hr j hj))];exact ih e
    ·cases e
def oU{c d:Callee}(h:RV c d){top:Bool}{nt:Nat}:∀(k:bV) {R:ai.Fr} {W:AW} {r:LT},cy P c top nt k R W=some r->cy P d top nt k R W=some r:=by
 intro k;induction k with
 |skip=>intro R W r e;exact e
 |label l=>intro R W r e;exact e
 |exit id=>intro R W r e;exact e
 |ret=>intro R W r e;exact e
 |goto l=>intro R W r e;exact e
 |scope b _=>intro R W r e;exact e
 |refuse s=>intro R W r e;exact e
 |region id ops Gh=>
  intro R W r e;unfold cy at e|-;cases Gh with
  |false=>
   simp only at e|-;cases hs:tL P c ops ops.toList R W with
   |none=>rw[hs]at e;cases e
   |some q=>rw[hs]at e;rw[Om h hs];exact e
  |true=>
   simp only at e|-;cases hD:ai.D id ops with
   |none=>
    rw[hD]at e;simp only at e|-;cases hs:tL P c ops ops.toList R W with
    |none=>rw[hs]at e;cases e
    |some q=>rw[hs]at e;rw[Om h hs];exact e
   |some pl=>
    rw[hD]at e;simp only at e|-;cases hs:mJ P c ops pl R W with
    |none=>rw[hs]at e;cases e
    |some q=>rw[hs]at e;rw[S2 h hs];exact e
 |seq a b iha Tw=>
  intro R W r e;rw[cy]at e|-;cases ha:cy P c top nt a R W with
  |none=>rw[ha]at e;cases e
  |some q=>
   rw[ha]at e;rw[iha ha];obtain⟨x,R',W'⟩:=q;cases x with
   |normal=>exact Tw e
   |exit i=>exact e
   |ret=>exact e
 |cond o a b iha Tw=>
  intro R W r e;rw[cy]at e|-;cases ho:aE R o with
  |bool t=>rw[ho]at e;cases t with
   |true=>exact iha e
   |false=>exact Tw e
  |_=>rw[ho]at e;cases e
 |block id b ih=>
  intro R W r e;rw[cy]at e|-;cases hb:cy P c top nt b R W with
  |none=>rw[hb]at e;cases e
  |some q=>rw[hb]at e;rw[ih hb];exact e
 |loop b ih=>intro R W r e;rw[cy]at e|-;exact KN (λR W q hq=>ih hq) _ _ _ _ e
 |rangeFunc f ps aB4 bd _ _=>
  intro R W r e;unfold cy at e|-;cases top with
  |false=>cases e
  |true=>
   simp only at e|-;cases hf:aE R f with
   |func fn fs cs=>
    rw[hf]at e;cases fn with
    |func i=>
     simp only[AW.dU]at e|-;cases hc:c (.func (.func i) fs cs) [.func (.yield W.next) #[] #[]] (W.add (.loop .ready none R nt ps aB4 bd))with
     |none=>rw[hc]at e;cases e
     |some q=>rw[hc]at e;rw[h _ _ _ _ hc];exact e
    |_=>cases e
   |_=>rw[hf]at e;cases e
def acb{bad:List Nat}{spec c d:Callee}(h:RV c d):RV (nL P bad spec c) (nL P bad spec d):=by
 intro f a W r e;unfold nL at e|-;cases f with
 |func fn fs cs=>
  cases fn with
  |func i=>
   simp only at e|-;cases hb:P8 i bad with
   |true=>rw[hb]at e;exact e
   |false=>
    rw[hb]at e;simp only at e|-;cases hf:P.funcs[i]? with
    |none=>rw[hf]at e;cases e
    |some fn=>
     rw[hf]at e;simp only at e|-;cases hc:fn.body with
     |none=>rw[hc]at e;cases e
     |some k=>
      rw[hc]at e;simp only at e|-;cases hl:Nat.ble (fs.toList.length+(a.length+cs.toList.length)) fn.ntmps with
      |false=>rw[hl]at e;cases e
      |true=>
       rw[hl]at e;simp only at e|-;cases hk:cy P c true fn.ntmps k (cz 0 (fs.toList++(a++cs.toList)) ai.blank) W with
       |none=>rw[hk]at e;cases e
       |some q=>rw[hk]at e;rw[oU h k hk];exact e
  |yield l=>
   simp only at e|-;split at e;case h_2=>cases e
   rename_i R nt ps aB4 bd hl;cases hn:Nat.beq (fs.toList.length+a.length) ps.size with
   |false=>rw[hn]at e;cases e
   |true=>
    rw[hn]at e;simp only at e|-;cases h1:cy P c false nt aB4 (nS ps.toList (fs.toList++a) R) W with
    |none=>rw[h1]at e;cases e
    |some q=>
     rw[h1]at e;rw[oU h aB4 h1];obtain⟨x,R1,W1⟩:=q;cases x with
     |normal=>
      simp only at e|-;split at e;case h_2=>cases e
      rename_i pd9 R9 WL Xx Wk Xq hg;cases h2:cy P c false nt bd R1 (W1.put l (.loop .busy pd9 R9 WL Xx Wk Xq))with
      |none=>rw[h2]at e;cases e
      |some q2=>rw[h2]at e;rw[oU h bd h2];exact e
     |exit i=>cases e
     |ret=>cases e
  |_=>cases e
 |_=>cases e
section
variable {c:Nat->Callee} {o:Callee}
structure Z9 (c:Nat->Callee) (o:Callee):Prop where
 up:∀n,RV (c n) (c (n+1))
 of:∀f a W r,o f a W=some r->∃n,c n f a W=some r
def Z9.le(h:Z9 c o){m n:Nat}(hmn:m<=n):RV (c m) (c n):=by
 induction hmn with
 |refl=>exact .refl _
 |step _ ih=>exact ih.trans (h.up _)
def SV(h:Z9 c o){op:am}{R:ai.Fr}{W:AW}{r:ad×AW}(e:vM P o op R W=some r):∃n,vM P (c n) op R W=some r:=by
 rcases Sr P op R W with hd|⟨f,a,hd⟩
 ·exact⟨0,by rw[<-e];exact hd _ _⟩
 ·rw[hd]at e;obtain⟨n,hn⟩:=h.of _ _ _ _ e;exact⟨n,by rw[hd];exact hn⟩
def M5(h:Z9 c o){ops:Array am}{op:am}{R:ai.Fr}{W:AW}{r:ai.Fr×AW}(e:nK P o ops op R W=some r):∃n,nK P (c n) ops op R W=some r:=by
 unfold nK at e|-;split at e
 ·rename_i hw;cases ho:vM P o op R W with
  |none=>rw[ho]at e;cases e
  |some q=>rw[ho]at e;obtain⟨n,hn⟩:=SV h ho;exact⟨n,by rw[an hw,hn];exact e⟩
 ·rename_i hw;exact⟨0,by rw[aq hw];exact e⟩
def Rr(h:Z9 c o){ops:Array am}:∀{l:List am} {R:ai.Fr} {W:AW} {r:ai.Fr×AW},tL P o ops l R W=some r->∃n,tL P (c n) ops l R W=some r:=by
 intro l;induction l with
 |nil=>intro R W r e;exact⟨0,e⟩
 |cons op l ih=>
  intro R W r e;rw[tL]at e;cases hs:nK P o ops op R W with
  |none=>rw[hs]at e;cases e
  |some q=>rw[hs]at e;obtain⟨n,hn⟩:=M5 h hs;obtain⟨m,hm⟩:=ih e;refine⟨max n m,?_⟩;rw[tL,DX (h.le (wV n m)) hn];exact Om (h.le (Bv n m)) hm
def Ya(h:Z9 c o){ops:Array am}{R:ai.Fr}{W:AW}{j:Nat}(e:ur P o ops R W j=true):∃n,ur P (c n) ops R W j=true:=by
 unfold ur at e|-;cases hj:ops[j]? with
 |none=>rw[hj]at e;cases e
 |some op=>
  rw[hj]at e;simp only at e|-;split at e
  ·rename_i hw;cases ho:vM P o op R W with
   |none=>rw[ho]at e;cases e
   |some q=>rw[ho]at e;obtain⟨n,hn⟩:=SV h ho;exact⟨n,by rw[an hw,hn];exact e⟩
  ·rename_i hw;exact⟨0,by rw[aq hw]⟩
def Ml(h:Z9 c o){ops:Array am}{R:ai.Fr}{W:AW}:∀{l:List Nat},l.all (ur P o ops R W)=true->∃n,l.all (ur P (c n) ops R W)=true:=by
 intro l;induction l with
 |nil=>intro _;exact⟨0,rfl⟩
 |cons j l ih=>intro e;simp only[dz,bA]at e;obtain⟨n,hn⟩:=Ya h e.1;obtain⟨m,hm⟩:=ih e.2;refine⟨max n m,?_⟩;simp only[dz,bA];exact⟨D2 (h.le (wV n m)) hn,dd.2 λj hj=>D2 (h.le (Bv n m)) (dd.1 hm j hj)⟩
def Ys(h:Z9 c o){ops:Array am}:∀{l:List (Nat×List Nat)} {R:ai.Fr} {W:AW} {r:ai.Fr×AW},mJ P o ops l R W=some r->∃n,mJ P (c n) ops l R W=some r:=by
 intro l;induction l with
 |nil=>intro R W r e;exact⟨0,e⟩
 |cons p l ih=>
  intro R W r e;obtain⟨i,re⟩:=p;rw[mJ]at e;cases hi:ops[i]? with
  |none=>rw[hi]at e;cases e
  |some op=>
   rw[hi]at e;simp only at e;cases hs:nK P o ops op R W with
   |none=>rw[hs]at e;cases e
   |some q=>
    rw[hs]at e;simp only at e;split at e
    ·rename_i hr;obtain⟨n,hn⟩:=M5 h hs;obtain⟨m,hm⟩:=Ml h hr;obtain⟨k,hk⟩:=ih e;refine⟨max n (max m k),?_⟩;rw[mJ,hi];simp only;rw[DX (h.le (wV n _)) hn];simp only;rw[an (dd.2 λj hj=>D2 (h.le (by omega)) (dd.1 hm j hj))];exact S2 (h.le (by omega)) hk
    ·cases e
def Yr(h:Z9 c o){top:Bool}{nt:Nat}{k:bV}(ih:∀{R:ai.Fr} {W:AW} {r:LT},cy P o top nt k R W=some r->∃n,cy P (c n) top nt k R W=some r):
 ∀(m:Nat) {R:ai.Fr} {W:AW} {r:LT},mP (cy P o top nt k) m R W=some r->∃n,mP (cy P (c n) top nt k) m R W=some r:=by
 intro m;induction m with
 |zero=>intro R W r e;cases e
 |succ m ihm=>
  intro R W r e;unfold mP at e;cases hb:cy P o top nt k R W with
  |none=>rw[hb]at e;cases e
  |some q=>
   rw[hb]at e;obtain⟨n,hn⟩:=ih hb;obtain⟨x,R',W'⟩:=q;cases x with
   |normal=>obtain⟨j,hj⟩:=ihm e;refine⟨max n j,?_⟩;unfold mP;rw[oU (h.le (wV n j)) k hn];exact KN (λR W q hq=>oU (h.le (Bv n j)) k hq) _ _ _ _ hj
   |exit i=>exact⟨n,by unfold mP;rw[hn];exact e⟩
   |ret=>exact⟨n,by unfold mP;rw[hn];exact e⟩
def FT(h:Z9 c o){top:Bool}{nt:Nat}:∀(k:bV) {R:ai.Fr} {W:AW} {r:LT},cy P o top nt k R W=some r->∃n,cy P (c n) top nt k R W=some r:=by
 intro k;induction k with
 |skip=>intro R W r e;exact⟨0,e⟩
 |label l=>intro R W r e;exact⟨0,e⟩
 |exit id=>intro R W r e;exact⟨0,e⟩
 |ret=>intro R W r e;exact⟨0,e⟩
 |goto l=>intro R W r e;exact⟨0,e⟩
 |scope b _=>intro R W r e;exact⟨0,e⟩
 |refuse s=>intro R W r e;exact⟨0,e⟩
 |region id ops Gh=>
  intro R W r e;unfold cy at e|-;cases Gh with
  |false=>
   simp only at e|-;cases hs:tL P o ops ops.toList R W with
   |none=>rw[hs]at e;cases e
   |some q=>rw[hs]at e;obtain⟨n,hn⟩:=Rr h hs;exact⟨n,by rw[hn];exact e⟩
  |true=>
   simp only at e|-;cases hD:ai.D id ops with
   |none=>
    rw[hD]at e;simp only at e|-;cases hs:tL P o ops ops.toList R W with
    |none=>rw[hs]at e;cases e
    |some q=>rw[hs]at e;obtain⟨n,hn⟩:=Rr h hs;exact⟨n,by rw[hn];exact e⟩
   |some pl=>
    rw[hD]at e;simp only at e|-;cases hs:mJ P o ops pl R W with
    |none=>rw[hs]at e;cases e
    |some q=>rw[hs]at e;obtain⟨n,hn⟩:=Ys h hs;exact⟨n,by rw[hn];exact e⟩
 |seq a b iha Tw=>
  intro R W r e;rw[cy]at e;cases ha:cy P o top nt a R W with
  |none=>rw[ha]at e;cases e
  |some q=>
   rw[ha]at e;obtain⟨n,hn⟩:=iha ha;obtain⟨x,R',W'⟩:=q;cases x with
   |normal=>obtain⟨m,hm⟩:=Tw e;refine⟨max n m,?_⟩;rw[cy,oU (h.le (wV n m)) a hn];exact oU (h.le (Bv n m)) b hm
   |exit i=>exact⟨n,by rw[cy,hn];exact e⟩
   |ret=>exact⟨n,by rw[cy,hn];exact e⟩
 |cond q a b iha Tw=>
  intro R W r e;rw[cy]at e;cases ho:aE R q with
  |bool t=>rw[ho]at e;cases t with
   |true=>obtain⟨n,hn⟩:=iha e;exact⟨n,by rw[cy,ho];exact hn⟩
   |false=>obtain⟨n,hn⟩:=Tw e;exact⟨n,by rw[cy,ho];exact hn⟩
  |_=>rw[ho]at e;cases e
 |block id b ih=>
  intro R W r e;rw[cy]at e;cases hb:cy P o top nt b R W with
  |none=>rw[hb]at e;cases e
  |some q=>rw[hb]at e;obtain⟨n,hn⟩:=ih hb;exact⟨n,by rw[cy,hn];exact e⟩
 |loop b ih=>intro R W r e;rw[cy]at e;obtain⟨n,hn⟩:=Yr h (λe=>ih e) _ e;exact⟨n,by rw[cy];exact hn⟩
 |rangeFunc f ps aB4 bd _ _=>
  intro R W r e;unfold cy at e|-;cases top with
  |false=>cases e
  |true=>
   simp only at e|-;cases hf:aE R f with
   |func fn fs cs=>
    rw[hf]at e;cases fn with
    |func i=>
     simp only[AW.dU]at e|-;cases hc:o (.func (.func i) fs cs) [.func (.yield W.next) #[] #[]] (W.add (.loop .ready none R nt ps aB4 bd))with
     |none=>rw[hc]at e;cases e
     |some q=>rw[hc]at e;obtain⟨n,hn⟩:=h.of _ _ _ _ hc;exact⟨n,by rw[hn];exact e⟩
    |_=>cases e
   |_=>rw[hf]at e;cases e
def X5(h:Z9 c o){bad:List Nat}{spec:Callee}{f:ad}{a:List ad}{W:AW}{r:ad×AW}(e:nL P bad spec o f a W=some r):∃n,nL P bad spec (c n) f a W=some r:=by
 unfold nL at e|-;cases f with
 |func fn fs cs=>
  cases fn with
  |func i=>
   simp only at e|-;cases hb:P8 i bad with
   |true=>rw[hb]at e;exact⟨0,e⟩
   |false=>
    rw[hb]at e;simp only at e|-;cases hf:P.funcs[i]? with
    |none=>rw[hf]at e;cases e
    |some fn=>
     rw[hf]at e;simp only at e|-;cases hc:fn.body with
     |none=>rw[hc]at e;cases e
     |some k=>
      rw[hc]at e;simp only at e|-;cases hl:Nat.ble (fs.toList.length+(a.length+cs.toList.length)) fn.ntmps with
      |false=>rw[hl]at e;cases e
      |true=>
       rw[hl]at e;simp only at e|-;cases hk:cy P o true fn.ntmps k (cz 0 (fs.toList++(a++cs.toList)) ai.blank) W with
       |none=>rw[hk]at e;cases e
       |some q=>rw[hk]at e;obtain⟨n,hn⟩:=FT h k hk;exact⟨n,by rw[hn];exact e⟩
  |yield l=>
   simp only at e|-;split at e;case h_2=>cases e
   rename_i R nt ps aB4 bd hl;cases hn:Nat.beq (fs.toList.length+a.length) ps.size with
   |false=>rw[hn]at e;cases e
   |true=>
    rw[hn]at e;simp only at e|-;cases h1:cy P o false nt aB4 (nS ps.toList (fs.toList++a) R) W with
    |none=>rw[h1]at e;cases e
    |some q=>
     rw[h1]at e;obtain⟨n,hn1⟩:=FT h aB4 h1;obtain⟨x,R1,W1⟩:=q;cases x with
     |normal=>
      simp only at e;split at e;case h_2=>cases e
      rename_i pd9 R9 WL Xx Wk Xq hg;cases h2:cy P o false nt bd R1 (W1.put l (.loop .busy pd9 R9 WL Xx Wk Xq))with
      |none=>rw[h2]at e;cases e
      |some q2=>rw[h2]at e;obtain⟨m,hm⟩:=FT h bd h2;refine⟨max n m,?_⟩;rw[oU (h.le (wV n m)) aB4 hn1];simp only;rw[hg];simp only;rw[oU (h.le (Bv n m)) bd hm];exact e
     |exit i=>cases e
     |ret=>cases e
  |_=>cases e
 |_=>cases e
end
end
end
section
variable [ai]
def FnR.back{σ σ':dx}(hs:Sub σ σ'){f u u':Fn}(h:FnR σ f u)(k:FnR σ' f u'):FnR σ f u':=by
 cases h with
 |func f=>cases k;exact .func f
 |yield l g hg=>
  cases k with
  |yield _ g' F2=>have:=(hs _ _ hg).symm.trans F2;injection this with this;subst this;exact .yield l g hg
def VR.back{σ σ':dx}(hs:Sub σ σ'){v u:ad}(h:VR σ v u):∀{u':ad},VR σ' v u'->VR σ v u':=by
 induction h with
 |bool b=>intro u' k;cases k;exact .bool b
 |int k n=>intro u' k;cases k;exact .int _ _
 |float k n=>intro u' k;cases k;exact .float _ _
 |string s=>intro u' k;cases k;exact .string s
 |Qj=>intro u' k;cases k;exact .Qj
 |ptr a g hg wN=>
  intro u' k;cases k with
  |ptr _ g' F2 Gc=>have:=(hs _ _ hg).symm.trans F2;injection this with this;subst this;exact .ptr a g hg wN
 |J5 l c=>intro u' k;cases k;exact .J5 _ _
 |slice a l c c' g hg wN hc=>
  intro u' k;cases k with
  |slice _ _ _ c2 g' F2 Gc yT=>have:=(hs _ _ hg).symm.trans F2;injection this with this;subst this;exact .slice a l c c2 g hg wN yT
  |dO _ a' _ g' F2 yT=>have:=(hs _ _ hg).symm.trans F2;injection this with this;subst this;exact .dO a a' c g hg yT
 |dO a a' c g hg hc=>
  intro u' k;cases k with
  |slice _ _ _ c2 g' F2 Gc yT=>have:=(hs _ _ hg).symm.trans F2;injection this with this;subst this;exact .slice a 0 c c2 g hg Gc yT
  |dO _ a2 _ g' F2 yT=>exact .dO a a2 c g hg yT
 |UV=>intro u' k;cases k;exact .UV
 |map r g hg=>
  intro u' k;cases k with
  |map _ g' F2=>have:=(hs _ _ hg).symm.trans F2;injection this with this;subst this;exact .map r g hg
 |nilFunc=>intro u' k;cases k;exact .nilFunc
 |func fn LO fs yj cs cU hf h1 _ h3 _ ih1 ih2=>
  intro u' k;cases k with
  |func _ fn2 _ fs2 _ LC kf k1 k2 k3 k4=>
   refine .func _ _ _ _ _ _ (hf.back hs kf) k1 (λi v v' a b=>?_) k3 (λi v v' a b=>?_)
   ·have hi:i<yj.size:=by rw[<-h1];exact(eS.1 a).1
    exact ih1 i v _ a (jN hi) (k2 i v v' a b)
   ·have hi:i<cU.size:=by rw[<-h3];exact(eS.1 a).1
    exact ih2 i v _ a (jN hi) (k4 i v v' a b)
 |nilIface=>intro u' k;cases k;exact .nilIface
 |iface t v v' _ ih=>
  intro u' k;cases k with
  |iface _ _ v2 k=>exact .iface t v v2 (ih k)
 |agg cs cU h1 _ ih=>
  intro u' k;cases k with
  |agg _ LC k1 k2=>
   refine .agg _ _ k1 λi v v' a b=>?_
   have hi:i<cU.size:=by rw[<-h1];exact(eS.1 a).1
   exact ih i v _ a (jN hi) (k2 i v v' a b)
 |tuple cs cU h1 _ ih=>
  intro u' k;cases k with
  |tuple _ LC k1 k2=>
   refine .tuple _ _ k1 λi v v' a b=>?_
   have hi:i<cU.size:=by rw[<-h1];exact(eS.1 a).1
   exact ih i v _ a (jN hi) (k2 i v v' a b)
def pw.back{σ σ':dx}(hs:Sub σ σ'){h h':Array Obj}{g:At}{o:dH}(a:pw σ h g o)(b:pw σ' h' g o):pw σ h' g o:=by
 cases o with
 |cells cs=>obtain⟨c1,t1,_,_,_,_,_,e4⟩:=a;obtain⟨c2,t2,fr2,f1,f0,f2,f3,f4⟩:=b;refine⟨c2,t2,fr2,f1,f0,f2,f3,λi v hv=>?_⟩;obtain⟨v1,_,x⟩:=e4 i v hv;obtain⟨v2,y1,y2⟩:=f4 i v hv;exact⟨v2,y1,x.back hs y2⟩
 |ro cs=>obtain⟨c1,t1,fr1,_,_,e4⟩:=a;obtain⟨c2,t2,fr2,f1,f2,f4⟩:=b;refine⟨c2,t2,fr2,f1,f2,λi v hv=>?_⟩;obtain⟨v1,_,x⟩:=e4 i v hv;obtain⟨v2,y1,y2⟩:=f4 i v hv;exact⟨v2,y1,x.back hs y2⟩
 |map es nP=>
  obtain⟨e1,e2,es1,_,⟨e3,e4⟩⟩:=a;obtain⟨f1,f2,es2,f3,⟨f4,f5⟩⟩:=b;refine⟨f1,f2,es2,f3,f4,λi e e' x y=>?_⟩;have hi:i<es1.toList.length:=by rw[<-e3];exact(da.1 x).1
  obtain⟨p1,p2,_⟩:=e4 i e _ x (bJ hi);obtain⟨q1,q2,q3⟩:=f5 i e e' x y;exact⟨p1.back hs q1,p2.back hs q2,q3⟩
 |loop st qL R nt ps aB4 bd=>obtain⟨_,_,r1,_,_,_,⟨_,e4⟩,_,_,_,e8,e9,e10⟩:=a;obtain⟨f1,f2,r2,f3,f4,f5,⟨f6,f7⟩,f8,f9,f10,_,_,_⟩:=b;exact⟨f1,f2,r2,f3,f4,f5,⟨f6,λt ht=>(e4 t ht).back hs (f7 t ht)⟩,f8,f9,f10,e8,e9,e10⟩
 |qJ s pos=>exact b
 |tc t cs=>obtain⟨_,_,_,c1,_,_,_,e4⟩:=a;obtain⟨b1,b2,b3,c2,f1,f2,f3,f4⟩:=b;refine⟨b1,b2,b3,c2,f1,f2,f3,λi v hv=>?_⟩;obtain⟨v1,_,x⟩:=e4 i v hv;obtain⟨v2,y1,y2⟩:=f4 i v hv;exact⟨v2,y1,x.back hs y2⟩
structure Le (W W':AW):Prop where
 next:W.next<=W'.next
 get:∀b,b<W.next->W'.get b=W.get b
def Le.refl(W:AW):Le W W:=⟨aR _,λ_ _=>rfl⟩
def Le.trans{A B C:AW}(h:Le A B)(k:Le B C):Le A C:=⟨dW h.next k.next,λb hb=>(k.get b (fb hb h.next)).trans (h.get b hb)⟩
def Le.add{W W':AW}(h:Le W W')(o:dH):Le W (W'.add o):=
 ⟨dW h.next (by rw[AW.av];omega),λb hb=>by rw[AW.aG _ _ (by have:=h.next;omega)];exact h.get b hb⟩
def Le.put{W W':AW}(h:Le W W'){b:Nat}(hb:W.next<=b)(o:dH):Le W (W'.put b o):=
 ⟨h.next,λc hc=>by rw[AW.ay _ _ (by omega)];exact h.get c hc⟩
def Le.kill{W W':AW}(h:Le W W'){b:Nat}(hb:W.next<=b):Le W (W'.kill b):=
 ⟨h.next,λc hc=>by rw[AW.dm _ (by omega)];exact h.get c hc⟩
def agS{σ σ':dx}{W W':AW}{w w':ar}(hW:bI σ W w.heap)(aM:Le W W')(h1:bI σ' W' w'.heap)(he:fR σ W w σ' W' w'):bI σ W w'.heap/\fR σ W w σ W w':=by
 have mC:∀b o,W.get b=some o->b<W.next:=λb o hb=>by
  rcases qf b W.next with h|h
  ·exact h
  ·rw[hW.free b h]at hb;cases hb
 refine⟨⟨hW.free,λb g hg=>⟨(hW.qP b g hg).1,fb (hW.qP b g hg).2 he.size⟩,λb o g hb hg=>?_,λb1 b2 o1 o2 g1 g2 fe a1 a2 k1 k2 hr=>?_⟩,
  ⟨.refl _,λ_ _ h=>h,he.size,he.os,he.tape,he.output,he.keep,λ_ _ h k=>⟨h,k⟩,λb g hg _=>.inl hg⟩⟩
 ·exact(hW.obj b o g hb hg).back he.sub (h1.obj b o g (by rw[aM.get b (mC b o hb)];exact hb) (he.sub _ _ hg))
 ·exact hW.vN b1 b2 o1 o2 g1 g2 fe a1 a2 k1 k2 hr
def Yq:ad->Bool
 |.tuple vs=>vs.isEmpty
 |_=>false
def gc(W:AW)(r:ad×AW):ad×AW:=
 open Classical in if(bN r.1&& !Yq r.1)=true/\Le W r.2 then(r.1,W)else r
def zi{W W':AW}{v:ad}(hv:(bN v&& !Yq v)=true)(h:Le W W'):gc W (v,W')=(v,W):=by unfold gc;rw[an ⟨hv,h⟩]
def jx{W W':AW}{v:ad}(hv:(bN v&& !Yq v)=false):gc W (v,W')=(v,W'):=by unfold gc;rw[aq (by simp only[hv];simp)]
def gcF(f:ad)(W:AW)(r:ad×AW):ad×AW:=match f with
 |.func (.func _) _ _=>gc W r
 |_=>r
def aqK{P:ah}{ng:List Nat}{c:Callee}(hc:cl P ng c):cl P ng λf a W=>(c f a W).map (gcF f W):=by
 intro f args W v W' h σ w f' cZ hW hG hf db;simp only at h;cases hr:c f args W with
 |none=>rw[hr]at h;cases h
 |some q=>
  rw[hr]at h;obtain⟨v1,W1⟩:=q;have hk:=hc f args W v1 W1 hr σ w f' cZ hW hG hf db;simp only[dq,iW]at h;unfold gcF at h;split at h;case h_2=>injection h with e1 e2;subst e1;subst e2;exact hk
  unfold gc at h;split at h
  ·rename_i hp;injection h with e1 e2;subst e1;subst e2;have pP:bN v1=true:=(bA _ _▸hp.1).1;have key:∀(R R':ad->ar->Prop),(∀v' w',R v' w'->R' v' w')->B0 P f' cZ w R->B0 P f' cZ w R':=by
    intro R R' hRR hC;unfold B0 at hC|-;split at hC
    ·exact⟨hC.1,pf hC.2 λe w' ⟨u,hu,hr⟩=>⟨u,hu,hRR _ _ hr⟩⟩
    ·obtain⟨f,tmps,aB4,bd,k1,k2⟩:=hC;exact⟨f,tmps,aB4,bd,k1,RoundIn.mono k2 λe w' ⟨u,hu,hr⟩=>⟨u,hu,hRR _ _ hr⟩⟩
    ·exact hC.elim
   refine key _ _ (λv' w' ⟨σ',k1,k2,k3⟩=>?_) hk;obtain⟨d1,d2⟩:=agS hW hp.2 k2 k3;have:v'=v1:=gH pP k1;subst this;exact⟨σ,jJ pP,d1,d2⟩
  ·injection h with e1 e2;subst e1;subst e2;exact hk
section
variable (P:ah) (bad:List Nat) (spec:Callee)
def gC:Nat->Callee
 |0=>λ_ _ _=>none
 |n+1=>λf a W=>(nL P bad spec (gC n) f a W).map (gcF f W)
def aqt:∀n,RV (gC P bad spec n) (gC P bad spec (n+1)):=by
 intro n;induction n with
 |zero=>intro f a W r h;cases h
 |succ n ih=>
  intro f a W r h;have h':(nL P bad spec (gC P bad spec n) f a W).map (gcF f W)=some r:=h;show(nL P bad spec (gC P bad spec (n+1)) f a W).map (gcF f W)=some r;cases hb:nL P bad spec (gC P bad spec n) f a W with
  |none=>rw[hb]at h';cases h'
  |some q=>rw[hb]at h';rw[acb ih _ _ _ _ hb];exact h'
def om:Callee:=λf a W=>open Classical in if h:∃r n,gC P bad spec n f a W=some r then some (Classical.choose h)else none
def Oo:Z9 (gC P bad spec) (om P bad spec):=by
 refine⟨aqt P bad spec,λf a W r h=>?_⟩;unfold om at h;split at h
 ·rename_i hx;injection h with h;subst h;exact xO hx
 ·cases h
def anZ{n:Nat}{f:ad}{a:List ad}{W:AW}{r:ad×AW}(h:gC P bad spec n f a W=some r):om P bad spec f a W=some r:=by have hx:∃r n,gC P bad spec n f a W=some r:=⟨r,n,h⟩;unfold om;rw[ph hx];obtain⟨m,hm⟩:=xO hx;have h1:=(Oo P bad spec).le (wV n m) _ _ _ _ h;have h2:=(Oo P bad spec).le (Bv n m) _ _ _ _ hm;rw[h1]at h2;exact h2.symm
def P1{f:ad}{a:List ad}{W:AW}{r:ad×AW}(h:nL P bad spec (om P bad spec) f a W=some r):om P bad spec f a W=some (gcF f W r):=by obtain⟨n,hn⟩:=X5 (Oo P bad spec) h;refine anZ P bad spec (n:=n+1) ?_;show(nL P bad spec (gC P bad spec n) f a W).map (gcF f W)=_;rw[hn];rfl
variable {P bad spec}
def aiR(hm:P.follows .mixedOrders=true)(hP:nE ai.ng bad 0 P.funcs.toList=true)(hs:cl P ai.ng spec):∀n,cl P ai.ng (gC P bad spec n)
 |0=>λf args W v W' h=>by cases h
 |n+1=>aqK (G0 hm rfl hP hs (aiR hm hP hs n))
def ape(hm:P.follows .mixedOrders=true)(hP:nE ai.ng bad 0 P.funcs.toList=true)(hs:cl P ai.ng spec):cl P ai.ng (om P bad spec):=by intro f args W v W' h;obtain⟨n,hn⟩:=(Oo P bad spec).of _ _ _ _ h;exact aiR hm hP hs n f args W v W' hn
def ajt{i:Nat}{fn:iv}{c:bV}(hb:P8 i bad=false)(hf:P.funcs[i]? =some fn)(hc:fn.body=some c){fs cs:Array ad}{args:List ad}
 (hn:Nat.ble (fs.toList.length+(args.length+cs.toList.length)) fn.ntmps=true){W:AW}{r:ad×AW}(h:aa0 P (om P bad spec) fn.ntmps c fn.results (fs.toList++(args++cs.toList)) W=some r):
 om P bad spec (.func (.func i) fs cs) args W=some (gc W r):=P1 P bad spec (Ye hb hf hc hn h)
def abK{l nt:Nat}{R:ai.Fr}{ps:Array Tmp}{aB4 bd:bV}{W:AW}(hl:W.get l=some (.loop .ready none R nt ps aB4 bd)){fs cs:Array ad}{args:List ad}(hn:fs.toList.length+args.length=ps.size)
 {r:ad×AW}(h:OJ P (om P bad spec) l nt aB4 bd (nS ps.toList (fs.toList++args) R) W=some r):om P bad spec (.func (.yield l) fs cs) args W=some r:=P1 P bad spec (SJ hl hn h)
def Oz{i:Nat}(hb:P8 i bad=true){fs cs:Array ad}{args:List ad}{W:AW}{r:ad×AW}(h:spec (.func (.func i) fs cs) args W=some r):
 om P bad spec (.func (.func i) fs cs) args W=some (gc W r):=by
 refine P1 P bad spec ?_;unfold nL;simp only[hb];exact h
end
end
section
variable [ai]
def Ee{α ρ:Type}(a:α)(g:α->Option ρ):eY (some a) g=g a:=by rw[Lk];rfl
section
variable {P:ah} {W:AW}
def ak6(v:ad):dh v W=some (v,W):=aT rfl rfl
def jR(cs:Array ad):rD (.agg cs) W=some (.pointer (some ⟨W.next,0,none⟩),W.add (.cells cs.toList)):=aT rfl rfl
def Q8(k:be)(n:Int):rD (.int k n) W=some (.pointer (some ⟨W.next,0,none⟩),W.add (.cells [.int k n])):=aT rfl rfl
def Yu(b:Bool):rD (.bool b) W=some (.pointer (some ⟨W.next,0,none⟩),W.add (.cells [.bool b])):=aT rfl rfl
def SN(s:ByteArray):rD (.string s) W=some (.pointer (some ⟨W.next,0,none⟩),W.add (.cells [.string s])):=aT rfl rfl
def Vn(a:Option bg)(l c:Nat):rD (.slice a l c) W=some (.pointer (some ⟨W.next,0,none⟩),W.add (.cells [.slice a l c])):=aT rfl rfl
def YG(f:Fn)(a b:Array ad):rD (.func f a b) W=some (.pointer (some ⟨W.next,0,none⟩),W.add (.cells [.func f a b])):=aT rfl rfl
def UM(f:jD)(a b:Array ad):ut (.func f) a b W=some (.func (.func f) a b,W):=aT rfl rfl
def Pd(a b:ad):sZ (.tuple #[a,b]) 0 W=some (a,W):=aT rfl rfl
def NU(a b:ad):sZ (.tuple #[a,b]) 1 W=some (b,W):=aT rfl rfl
def Oc(a b c:ad):sZ (.tuple #[a,b,c]) 0 W=some (a,W):=aT rfl rfl
def NW(a b c:ad):sZ (.tuple #[a,b,c]) 1 W=some (b,W):=aT rfl rfl
def PT(a b c:ad):sZ (.tuple #[a,b,c]) 2 W=some (c,W):=aT rfl rfl
def adE(b:Bool):sW (.bool b) true=b:=by cases b<;>exact aT rfl rfl
def Zc(b:Bool):sW (.bool b) false= !b:=by cases b<;>exact aT rfl rfl
def aen{ρ:Type}(a b:ρ):qR true a b=a:=aT rfl rfl
def ZC{ρ:Type}(a b:ρ):qR false a b=b:=aT rfl rfl
def abU{ρ:Type}(c:Bool)(a b:Option ρ):Qg (.bool c) a b=qR c a b:=aT rfl rfl
def Uv(c:Bool)(a b:ad):jQ (.bool c) a b W=some (qR c a b,W):=by cases c<;>exact aT rfl rfl
def PQ{ρ:Type}(a b:Option ρ):yl X.normal a b=a:=aT rfl rfl
def Uo{ρ:Type}(i:Nat)(a b:Option ρ):yl (X.exit i) a b=b:=aT rfl rfl
def Yf{ρ:Type}(a b:Option ρ):yl X.ret a b=b:=aT rfl rfl
def T1{ρ:Type}(i:Nat)(a b:Option ρ):B9 i (X.exit i) a b=a:=by show Bool.rec b a (Nat.beq i i)=a;rw[uC]
def YP{ρ:Type}(i:Nat)(a b:Option ρ):B9 i X.ret a b=b:=aT rfl rfl
def PF{ρ:Type}(i:Nat)(a b:Option ρ):B9 i X.normal a b=b:=aT rfl rfl
def Yv{ρ:Type}(a:Option ρ):Kt X.ret a=a:=aT rfl rfl
def ahj(b:Bool):oUn P .not (.bool b) W=some (.bool (!b),W):=aT rfl rfl
def abL(f:jD):wI f=.func (.func f) #[] #[]:=aT rfl rfl
def mQ{op:BinOp}{t:ag}{c d:Bool}{k:be}{a b:Int}{v:ad}(h:H7 op k a b=some v):bO P op t c d (.int k a) (.int k b) W=some (v,W):=by unfold bO rV;simp only[an,h]
def zJ{n:Int}(h1: -9223372036854775808<=n)(h2:n<9223372036854775808):IntKind.i64.wrap n=n:=by unfold IntKind.wrap;simp only[IntKind.bits,IntKind.signed,gK];split<;>rename_i h<;>simp at h<;>omega
def mF{t:ag}{c d:Bool}{a b:Int}(h1: -9223372036854775808<=a+b)(h2:a+b<9223372036854775808):bO P .add t c d (.ae a) (.ae b) W=some (.ae (a+b),W):=
 mQ (by simp only[H7,sr,Ap,zJ h1 h2])
def tG{t:ag}{c d:Bool}{a b:Int}(h1: -9223372036854775808<=a-b)(h2:a-b<9223372036854775808):bO P .sub t c d (.ae a) (.ae b) W=some (.ae (a-b),W):=
 mQ (by simp only[H7,sr,Ap,zJ h1 h2])
def aec{t:ag}{c d:Bool}{a b:Int}(h1: -9223372036854775808<=a*b)(h2:a*b<9223372036854775808):bO P .mul t c d (.ae a) (.ae b) W=some (.ae (a*b),W):=
 mQ (by simp only[H7,sr,Ap,zJ h1 h2])
def aeA{t:ag}{c d:Bool}{k:be}{a b:Int}:bO P .lss t c d (.int k a) (.int k b) W=some (.bool (decide (a<b)),W):=mQ rfl
def ad2{t:ag}{c d:Bool}{k:be}{a b:Int}:bO P .leq t c d (.int k a) (.int k b) W=some (.bool (decide (a<=b)),W):=mQ rfl
def aaw{t:ag}{c d:Bool}{k:be}{a b:Int}:bO P .gtr t c d (.int k a) (.int k b) W=some (.bool (decide (b<a)),W):=mQ rfl
def acq{t:ag}{c d:Bool}{k:be}{a b:Int}:bO P .geq t c d (.int k a) (.int k b) W=some (.bool (decide (b<=a)),W):=mQ rfl
def adK{t:ag}{c d:Bool}{k:be}{a b:Int}:bO P .eql t c d (.int k a) (.int k b) W=some (.bool (decide (a=b)),W):=mQ rfl
def aaY{t:ag}{c d:Bool}{k:be}{a b:Int}:bO P .neq t c d (.int k a) (.int k b) W=some (.bool (!decide (a=b)),W):=mQ rfl
def RU{s:Sem ad}{v:ad}(h:cH P s=some v):D6 (cH P (do pure (.value (<-s))))=some v:=by
 induction s with
 |pure a=>simp only[cH]at h;injection h with h;subst h;rfl
 |program k ih=>exact ih P h
 |_=>simp[cH]at h
def we{op:BinOp}{t:ag}{c d:Bool}{x y v:ad}(h0:rV P W op t x y=none)(hx:bN x=true)(hy:bN y=true)(hv:bN v=true)
 (hp:cH P (do eqGuard op t (opd c) (opd d) x y;binOp op t x y:Sem ad)=some v):bO P op t c d x y W=some (v,W):=by
 unfold bO;rw[h0];simp only[pA,hx,hy,fM,bi,RU hp,hv,dq]
def YQ{op:BinOp}(ho:op=.and\/op=.or\/op=.xor\/op=.andNot){t:ag}{c d:Bool}{k:be}{a b n:Int}(h:cH P (Op.intBits op k a b)=some (.int k n)):bO P op t c d (.int k a) (.int k b) W=some (.int k n,W):=by refine we (by rcases ho with rfl|rfl|rfl|rfl<;>simp[rV,H7]) rfl rfl rfl ?_;rcases ho with rfl|rfl|rfl|rfl<;>simpa[eqGuard,binOp]using h
def aaF{t:ag}{c d:Bool}{k:be}{a b:Int}:bO P .and t c d (.int k a) (.int k b) W=some (.int k (k.wrap (BitVec.ofInt k.bits a&&&BitVec.ofInt k.bits b).toNat),W):=YQ (.inl rfl) rfl
def gl{α β:Type}(s:Sem α)(f:α->Sem β):cH P (s>>=f)=(cH P s).bind λa=>cH P (f a):=by
 induction s with
 |pure a=>rfl
 |program k ih=>exact ih P
 |_=>rfl
def jv{α:Type}(a:α):cH P (pure a:Sem α)=some a:=aT rfl rfl
def Ij:cH P (program:Sem ah)=some P:=aT rfl rfl
def fw{t:ag}{d:TypeDesc}(h:P.underlying t=some d):cH P (underlying t)=some d:=by unfold underlying;simp only[gl,Ij,bM,h,jv]
def Ff{t:ag}{c d:Bool}{a b:ByteArray}:bO P .eql t c d (.string a) (.string b) W=some (.bool (a.toList==b.toList),W):=by
 refine we ?_ rfl rfl rfl ?_
 ·simp only[rV];have h1:px P W t (.string a) (.string b)=none:=by unfold px;split<;>first|rfl|simp_all
  rw[h1];rfl
 ·rfl
def FY{t:ag}{c d:Bool}{a b:ByteArray}:bO P .neq t c d (.string a) (.string b) W=some (.bool (!(a.toList==b.toList)),W):=by
 refine we ?_ rfl rfl rfl ?_
 ·simp only[rV];have h1:px P W t (.string a) (.string b)=none:=by unfold px;split<;>first|rfl|simp_all
  rw[h1];rfl
 ·rfl
def df{ts:Array ag}{ty:ag}{cf:Array Bool}{e:ag}(h:(ts[0]?).bind P.underlying=some (.slice e))(a:Option bg)(n c:Nat):aZ P .len ts ty cf [.slice a n c] W=some (.ae n,W):=by unfold aZ;simp only[h];rfl
def U7(v:ad):iP P [(v,none)] W=some (v,W):=aT rfl rfl
def VS(v u:ad):iP P [(v,none),(u,none)] W=some (.tuple #[v,u],W):=aT rfl rfl
def UB(v u x:ad):iP P [(v,none),(u,none),(x,none)] W=some (.tuple #[v,u,x],W):=aT rfl rfl
def adS:iP P [] W=some (.tuple #[],W):=aT rfl rfl
def aP{b o:Nat}{cs:List ad}{v:ad}(h:aH W b=some cs)(hv:cs[o]? =some v):bu (.pointer (some ⟨b,o,none⟩)) W=some (v,W):=by unfold bu;simp only[h,O1,hv,dq]
def bz{n b o:Nat}{cs:List ad}(h:aH W b=some cs)(hv:((cs.drop o).take n).length=n):dF n (.pointer (some ⟨b,o,none⟩)) W=some (.agg ((cs.drop o).take n).toArray,W):=by unfold dF;simp only[ka,h,hv,bi,dq]
def ao{b:Nat}{cs:List ad}(h:W.get b=some (.cells cs)):aH W b=some cs:=by unfold aH;rw[h]
def JX{b:Nat}{cs:List ad}(h:W.get b=some (.ro cs)):aH W b=some cs:=by unfold aH;rw[h]
def bC{cs:List ad}:aH (W.add (.cells cs)) W.next=some cs:=ao (W.aL _)
def G5{b:Nat}(o:dH)(h:b<W.next):aH (W.add o) b=aH W b:=by unfold aH;rw[W.aG o (by omega)]
def uR{b:Nat}(cs:List ad):aH (W.put b (.cells cs)) b=some cs:=ao (W.aW _ _)
def An{b c:Nat}(o:dH)(h:b≠c):aH (W.put b o) c=aH W c:=by unfold aH;rw[W.ay o h]
def Le.aH{W W':AW}(h:Le W W'){b:Nat}(hb:b<W.next):aH W' b=aH W b:=by unfold Eng.aH;rw[h.get b hb]
def zx{n b o:Nat}{cs:List ad}{v:ad}(h:W.get b=some (.cells cs))(hn:v.cells.size=n)(hl:o+v.cells.toList.length<=cs.length)(h1:v.cells.toList.all one=true):
 fm n (.pointer (some ⟨b,o,none⟩)) v W=some (ak,W.put b (.cells (ip cs o v.cells.toList))):=by
 unfold fm;simp only[hn,bi,JC,h,an (show o+v.cells.toList.length<=cs.length/\v.cells.toList.all one=true from⟨hl,h1⟩),dq]
def akP{b o off:Nat}:gO off (.pointer (some ⟨b,o,none⟩)) W=some (.pointer (some ⟨b,o+off,none⟩),W):=by unfold gO;simp only[dv]
def rH{z b o l c i:Nat}{k:be}(h:i<l):nY z (.slice (some ⟨b,o,none⟩) l c) (.int k (i:Int)) W=some (.pointer (some ⟨b,o+i*z,none⟩),W):=by unfold nY;simp only[kJ,an h,dv]
def aa6{len z b o i:Nat}{k:be}(h:i<len):ixA len z (.pointer (some ⟨b,o,none⟩)) (.int k (i:Int)) W=some (.pointer (some ⟨b,o+i*z,none⟩),W):=by unfold ixA;simp only[kJ,an h,dv]
end
section
variable {P:ah} {W:AW}
def Vp{b o:Nat}:bu (.pointer (some ⟨b,o,none⟩)) W=(aH W b).bind λcs=>(cs[o]?).map λv=>(v,W):=by
 unfold bu;simp only;cases aH W b with
 |none=>rfl
 |some cs=>simp only[bM,O1]
def Jt{n b o:Nat}:dF n (.pointer (some ⟨b,o,none⟩)) W=(aH W b).bind λcs=>if((cs.drop o).take n).length=n then some (.agg ((cs.drop o).take n).toArray,W)else none:=by
 unfold dF;simp only[ka];cases aH W b with
 |none=>rfl
 |some cs=>
  simp only[bM];by_cases h:((cs.drop o).take n).length=n
  ·rw[an h,an h];rfl
  ·rw[aq h,aq h];rfl
def aU(W:AW)(b:Nat):Option (List ad):=match W.get b with|some (.cells cs)=>some cs|_=>none
def j5{b:Nat}{cs:List ad}(h:aU W b=some cs):aH W b=some cs:=by
 unfold aU at h;split at h
 ·rename_i cU hg;injection h with h;subst h;exact ao hg
 ·cases h
def cT{b:Nat}{cs:List ad}(h:W.get b=some (.cells cs)):aU W b=some cs:=by unfold aU;rw[h]
def de{cs:List ad}:aU (W.add (.cells cs)) W.next=some cs:=cT (W.aL _)
def fL{b:Nat}(o:dH)(h:b<W.next):aU (W.add o) b=aU W b:=by unfold aU;rw[W.aG o (by omega)]
def bZ{b:Nat}(cs:List ad):aU (W.put b (.cells cs)) b=some cs:=cT (W.aW _ _)
def bQ{b c:Nat}(o:dH)(h:b≠c):aU (W.put b o) c=aU W c:=by unfold aU;rw[W.ay o h]
def Le.aU{W W':AW}(h:Le W W'){b:Nat}(hb:b<W.next):aU W' b=aU W b:=by unfold Eng.aU;rw[h.get b hb]
def Uw{n b o:Nat}{v:ad}:fm n (.pointer (some ⟨b,o,none⟩)) v W=(aU W b).bind λcs=>if v.cells.size=n/\o+v.cells.toList.length<=cs.length/\v.cells.toList.all one=true then some (ak,W.put b (.cells (ip cs o v.cells.toList)))else none:=by
 unfold fm aU;simp only[JC];by_cases h:v.cells.size=n
 ·rw[an h];cases hg:W.get b with
  |none=>rfl
  |some obj=>
   cases obj with
   |cells cs=>
    simp only[bM];by_cases h2:o+v.cells.toList.length<=cs.length/\v.cells.toList.all one=true
    ·rw[an h2,an ⟨h,h2⟩];rfl
    ·rw[aq h2,aq (λx=>h2 x.2)];rfl
   |_=>rfl
 ·rw[aq h];cases hg:W.get b with
  |none=>rfl
  |some obj=>
   cases obj with
   |cells cs=>simp only[bM];rw[aq (λx=>h x.1)];rfl
   |_=>rfl
def sH(P:ah)(t:ag):Option Nat:=match P.underlying t with
 |some (.slice e)=>nX P e
 |_=>none
def ti{t:ag}{z:Nat}(h:sH P t=some z):∃e,P.underlying t=some (.slice e)/\nX P e=some z:=by
 unfold sH at h;split at h
 ·rename_i e hu;exact⟨e,hu,h⟩
 ·cases h
def Fe{t:ag}{z:Nat}(hz:sH P t=some z){b o l c h:Nat}{k:be}(h1:h<=c)(h2:c<eJ):
 eP P t (.slice (some ⟨b,o,none⟩) l c) none (some (.int k (h:Int))) none W=some (.slice (some ⟨b,o,none⟩) h c,W):=by
 obtain⟨e,he,hz⟩:=ti hz;have hb:¬(c=eJ+z/\0<z):=λx=>by omega
 have h0:((⟨b,o,none⟩:bg).add (0*z))=⟨b,o,none⟩:=by rw[dv];simp
 unfold eP mz;simp only[he,hz,ft,kJ,qg,bi,aq hb,an (aC h2 h1),xH,h0,ite_self]
def MB{t:ag}{z:Nat}(hz:sH P t=some z){k:be}:
 eP P t (.slice none 0 0) none (some (.int k (0:Nat))) none W=some (.slice none 0 0,W):=by
 obtain⟨e,he,hz⟩:=ti hz;unfold eP mz;simp only[he,hz,ft,kJ,aR,kE,bi,xH]
def mL(P:ah)(ts:Array ag)(z bytes:Nat):Bool:=match ts.toList with
 |[t0,t1]=>Nat.beq t0 t1&&(match nR P t0 with
  |some e=>(match nX P e,(P.info? e).map (λi=>(i.zero,i.bytes))with
   |some z',some (some zv,alk)=>Nat.beq z' z&&Nat.beq alk bytes&&Nat.blt 0 z&&Nat.beq zv.cells.size z
   |_,_=>false)
  |none=>false)
 |_=>false
def sB{ts:Array ag}{z bytes:Nat}(h:mL P ts z bytes=true):∃t e zv,ts.toList=[t,t]/\nR P t=some e/\nX P e=some z/\(P.info? e).map (λi=>(i.zero,i.bytes))=some (some zv,bytes)/\0<z/\zv.cells.size=z:=by
 unfold mL at h;split at h;case h_2=>cases h
 rename_i t0 t1 hl;simp only[bA,fo]at h;obtain⟨h0,h⟩:=h;subst h0;split at h;case h_2=>cases h
 rename_i e he;split at h;case h_2=>cases h
 rename_i z' zv b' h1 h2;simp only[bA,fo,jH]at h;obtain⟨⟨⟨h3,h4⟩,h5⟩,h6⟩:=h;subst h3;subst h4;exact⟨t0,e,zv,hl,he,h1,h2,h5,h6⟩
def O5{ts:Array ag}{z bytes:Nat}(hk:mL P ts z bytes=true){b o n c:Nat}{cs new:List ad}(hc:aH W b=some cs)(hn:new=(cs.drop o).take (n*z))(hl:new.length=n*z)(h0:0<n)(h1:new.all one=true)
 (hb:n<1099511627776)(lA:(2*n+192)*bytes<=281474976710656):
 dB P W ts (.slice none 0 0) (.slice (some ⟨b,o,none⟩) n c)=some (.slice (some ⟨W.next,0,none⟩) n (eJ+z),W.add (.cells new)):=by
 obtain⟨t,e,zv,k1,k2,k3,k4,k5,k6⟩:=sB hk;have hr:pD W b o (n*z)=some new:=by rw[ka,hc];simp only;rw[an (by rw[<-hn];exact hl),hn]
 have hB:(0:Nat)<eJ:=by unfold eJ;omega
 have Tr:¬(0:Nat)=eJ+z:=by unfold eJ;omega
 have hr1:cp W (.slice (some ⟨b,o,none⟩) n c) (n*z)=some new:=by unfold cp;simp only;rw[aq (by have:=p9 h0 k5;omega),bL];exact hr
 have hr2:cp W (.slice none 0 0) (0*z)=some []:=by unfold cp;simp
 unfold dB;simp only[k1,k2,k3,k4,bi,aI,an (aC k5 (aC k6 (aC hb lA))),aq (show¬n=0 by omega),hr1,hr2,h1,aq Tr,an hB,kE,jG,AW.dU]
def Vd{ts:Array ag}{z bytes:Nat}(hk:mL P ts z bytes=true){b o n c:Nat}{cs new:List ad}(hc:aH W b=some cs)(hn:new=(cs.drop o).take (n*z))(hl:new.length=n*z)(h0:0<n)(h1:new.all one=true)
 {B m:Nat}{yU:List ad}(ho:W.get B=some (.cells yU))(P9:yU.length=m*z)
 (hb:m+n<1099511627776)(lA:(2*(m+n)+192)*bytes<=281474976710656)(hm:0<m):
 dB P W ts (.slice (some ⟨B,0,none⟩) m (eJ+z)) (.slice (some ⟨b,o,none⟩) n c)=some (.slice (some ⟨W.next,0,none⟩) (m+n) (eJ+z),(W.kill B).add (.cells (yU++new))):=by
 obtain⟨t,e,zv,k1,k2,k3,k4,k5,k6⟩:=sB hk;have hr:pD W b o (n*z)=some new:=by rw[ka,hc];simp only;rw[an (by rw[<-hn];exact hl),hn]
 have hr1:cp W (.slice (some ⟨b,o,none⟩) n c) (n*z)=some new:=by unfold cp;simp only;rw[aq (by have:=p9 h0 k5;omega),bL];exact hr
 have uN:pD W B 0 (m*z)=some yU:=by rw[ka,ao ho];simp only[jB];rw[ou (by omega),an P9]
 have hr2:cp W (.slice (some ⟨B,0,none⟩) m (eJ+z)) (m*z)=some yU:=by unfold cp;simp only;rw[aq (by have:=p9 hm k5;omega),bL];exact uN
 unfold dB;simp only[k1,k2,k3,k4,bi,an (aC k5 (aC k6 (aC hb lA))),aq (show¬n=0 by omega),hr1,hr2,h1,ho,AW.dU,AW.eK]
end
def Vj{body:ai.Fr->AW->Option LT}:∀(n m:Nat) (I:Nat->ai.Fr->AW->Prop) (Q:LT->Prop) (R:ai.Fr) (W:AW),n<m->I 0 R W->
 (∀k R W,k<n->I k R W->∃r,body R W=some r/\((r.1=.normal/\I (k+1) r.2.1 r.2.2)\/(r.1≠ .normal/\Q r)))->
 (∀R W,I n R W->∃r,body R W=some r/\r.1≠ .normal/\Q r)->∃r,mP body m R W=some r/\r.1≠ .normal/\Q r:=by
 intro n;induction n with
 |zero=>
  intro m I Q R W hm h0 _ he;obtain⟨m,rfl⟩:∃k,m=k+1:=⟨m-1,by omega⟩;obtain⟨⟨x,R',W'⟩,h1,h2,h3⟩:=he R W h0;refine⟨_,?_,h2,h3⟩;unfold mP;rw[h1];cases x with
  |normal=>exact absurd rfl h2
  |exit i=>rfl
  |ret=>rfl
 |succ n ih=>
  intro m I Q R W hm h0 hs he;obtain⟨m,rfl⟩:∃k,m=k+1:=⟨m-1,by omega⟩;obtain⟨⟨x,R',W'⟩,h1,h2⟩:=hs 0 R W (by omega) h0;rcases h2 with⟨h2,h3⟩|⟨h2,h3⟩
  ·simp only at h2 h3;subst h2;obtain⟨r,k1,k2,k3⟩:=ih m (λk=>I (k+1)) Q R' W' (by omega) h3 (λk R W hk hI=>hs (k+1) R W (by omega) hI) he;refine⟨r,?_,k2,k3⟩;unfold mP;rw[h1];exact k1
  ·refine⟨_,?_,h2,h3⟩;unfold mP;rw[h1];cases x with
   |normal=>exact absurd rfl h2
   |exit i=>rfl
   |ret=>rfl
def YW{body:ai.Fr->AW->Option LT}(n:Nat)(hn:n<1000000)(I:Nat->ai.Fr->AW->Prop)(Q:LT->Prop){R:ai.Fr}{W:AW}(h0:I 0 R W)
 (hs:∀k R W,k<n->I k R W->∃r,body R W=some r/\((r.1=.normal/\I (k+1) r.2.1 r.2.2)\/(r.1≠ .normal/\Q r)))
 (he:∀R W,I n R W->∃r,body R W=some r/\r.1≠ .normal/\Q r):∃r,fV body R W=some r/\Q r:=by
 rw[SO];obtain⟨r,h1,_,h2⟩:=Vj n 1000000 I Q R W hn h0 hs he;exact⟨r,h1,h2⟩
end
section
variable [ai]
def akY(P:ah)(i nt n:Nat):Bool:=match P.funcs[i]? with
 |some fn=>fn.body.isSome&&(Nat.beq fn.ntmps nt&&Nat.ble n nt)
 |none=>false
def apZ{P:ah}{bad:List Nat}{spec:Callee}{i nt n:Nat}(hb:P8 i bad=false)(hk:akY P i nt n=true){fs cs:Array ad}{args:List ad}(hn:fs.toList.length+(args.length+cs.toList.length)=n){W:AW}{r:ad×AW}
 (h:aa0 P (om P bad spec) nt (Ow P i) (acR P i) (fs.toList++(args++cs.toList)) W=some r):om P bad spec (.func (.func i) fs cs) args W=some (gc W r):=by
 unfold akY at hk;unfold Ow acR at h;cases hf:P.funcs[i]? with
 |none=>rw[hf]at hk;cases hk
 |some fn=>
  rw[hf]at hk h;simp only[bA,fo]at hk h;obtain⟨h1,h2,h3⟩:=hk;cases hc:fn.body with
  |none=>rw[hc]at h1;cases h1
  |some c=>rw[hc]at h;simp only at h;subst h2;exact ajt hb hf hc (by rw[hn];exact h3) h
end
section
variable [ai]
@[congr] theorem ann {α ρ:Type} {x y:Option α} {g:α->Option ρ} (h:x=y):eY x g=eY y g:=by rw[h]
@[congr] theorem anv {ρ:Type} {c d:Bool} {a b:ρ} (h:c=d):qR c a b=qR d a b:=by rw[h]
@[congr] theorem anB {ρ:Type} {c d:ad} {a b:Option ρ} (h:c=d):Qg c a b=Qg d a b:=by rw[h]
@[congr] theorem aiS {ρ:Type} {i:Nat} {x y:X} {a b:Option ρ} (h:x=y):B9 i x a b=B9 i y a b:=by rw[h]
@[congr] theorem aif {ρ:Type} {x y:X} {a b:Option ρ} (h:x=y):yl x a b=yl y a b:=by rw[h]
@[congr] theorem aiu {ρ:Type} {x y:X} {a:Option ρ} (h:x=y):Kt x a=Kt y a:=by rw[h]
theorem ajl{W W':AW}{k:be}{n:Int}(h:Le W W'):gc W (.int k n,W')=(.int k n,W):=zi rfl h
def IJ{W W':AW}{b:Bool}(h:Le W W'):gc W (.bool b,W')=(.bool b,W):=zi rfl h
section
variable {P:ah} {W:AW}
def Zl{k:be}{n:Int}(h:0<=n):kJ (.int k n)=some n.toNat:=by obtain⟨m,rfl⟩:∃m:Nat,n=(m:Int):=⟨n.toNat,by omega⟩;exact aT rfl rfl
def VY{len z b o:Nat}{k:be}{n:Int}(h0:0<=n)(h:n.toNat<len):ixA len z (.pointer (some ⟨b,o,none⟩)) (.int k n) W=some (.pointer (some ⟨b,o+n.toNat*z,none⟩),W):=by unfold ixA;simp only[Zl h0,an h,dv]
def afr(g:Nat):aqM g=.pointer (some ⟨g,0,none⟩):=aT rfl rfl
def jy(W:AW)(o o':dH):(W.add o).put W.next o'=W.add o':=by unfold AW.add AW.put;simp only[T.set_set]
def agI(W:AW)(b:Nat)(o o':dH):(W.put b o).put b o'=W.put b o':=by unfold AW.put;simp only[T.set_set]
def XW(cs:Array ad):(Value.agg cs).cells=cs:=aT rfl rfl
def adP(cs:List ad)(o:Nat)(v:ad)(h:o<cs.length):ip cs o [v]=cs.set o v:=by unfold ip;rw[OK];simp[h]
def sj{b o:Nat}{v:ad}(h:v.cells=#[v])(h1:one v=true):fm 1 (.pointer (some ⟨b,o,none⟩)) v W=(aU W b).bind λcs=>if o<cs.length then some (ak,W.put b (.cells (cs.set o v)))else none:=by
 rw[Uw,h];congr 1;funext cs;by_cases hl:o<cs.length
 ·rw[an hl,an ⟨rfl,by simp;omega,by simp[h1]⟩,adP _ _ _ hl]
 ·rw[aq hl,aq (λx=>hl (by have:=x.2.1;simp at this;omega))]
def xq{b o:Nat}{k:be}{n:Int}:fm 1 (.pointer (some ⟨b,o,none⟩)) (.int k n) W=(aU W b).bind λcs=>if o<cs.length then some (ak,W.put b (.cells (cs.set o (.int k n))))else none:=sj rfl rfl
def Aq{b o:Nat}{x:Bool}:fm 1 (.pointer (some ⟨b,o,none⟩)) (.bool x) W=(aU W b).bind λcs=>if o<cs.length then some (ak,W.put b (.cells (cs.set o (.bool x))))else none:=sj rfl rfl
def T0{b o:Nat}{x:ByteArray}:fm 1 (.pointer (some ⟨b,o,none⟩)) (.string x) W=(aU W b).bind λcs=>if o<cs.length then some (ak,W.put b (.cells (cs.set o (.string x))))else none:=sj rfl rfl
def jh{b o:Nat}{x:Option bg}{l c:Nat}:fm 1 (.pointer (some ⟨b,o,none⟩)) (.slice x l c) W=(aU W b).bind λcs=>if o<cs.length then some (ak,W.put b (.cells (cs.set o (.slice x l c))))else none:=sj rfl rfl
def DP{n b o:Nat}{vs:Array ad}:fm n (.pointer (some ⟨b,o,none⟩)) (.agg vs) W=(aU W b).bind λcs=>if vs.size=n/\o+vs.toList.length<=cs.length/\vs.toList.all one=true then some (ak,W.put b (.cells (ip cs o vs.toList)))else none:=Uw
def cI(k:be)(n:Int):one (.int k n)=true:=aT rfl rfl
def pG(s:ByteArray):one (.string s)=true:=aT rfl rfl
def aea(s:Bool):one (.bool s)=true:=aT rfl rfl
def cJ(a:Option bg)(l c:Nat):one (.slice a l c)=true:=aT rfl rfl
def aeQ{r:Option (ad×AW)}{u v:ad}{W':AW}(h:r=some (u,W'))(h2:iw u v=true):jP true r v=true:=by subst h;exact h2
def i9(k:be)(n:Int):iw (.int k n) (.int k n)=true:=by simp[iw,Ax]
def Lb(b:Bool):iw (.bool b) (.bool b)=true:=by simp[iw,Ax]
def Pa(s:ByteArray):iw (.string s) (.string s)=true:=by simp[iw,Ax,De]
def sd{t:ag}{c d:Bool}{x y:Array ad}{r:Bool}(hg:P.eqGuardType P.depth t=false)(h:PB P 8 t (.agg x) (.agg y)=some r):bO P .neq t c d (.agg x) (.agg y) W=some (.bool (!r),W):=by
 have h0:px P W t (.agg x) (.agg y)=none:=by unfold px;split<;>first|rfl|simp_all
 unfold bO rV;simp only[h0,J8,hg,gY,b9,h,dq]
def yd:List (Int×Int)->Option Bool
 |[]=>some true
 |p::l=>match some (p.1==p.2)with
  |some true=>yd l
  |some false=>some false
  |none=>none
def sD:∀l:List (Int×Int),yd l=some (l.all λp=>p.1==p.2)
 |[]=>rfl
 |p::l=>by
  unfold yd;cases h:p.1==p.2 with
  |true=>simp only[dz,h,gK];exact sD l
  |false=>simp only[dz,h,pj]
def OX(k:be)(n:Int):Ax (.int k n) (.int k n)=true:=by simp[Ax]
def Jm(s:ByteArray):Ax (.string s) (.string s)=true:=by simp[Ax,De]
def aa5(s:Bool):Ax (.bool s) (.bool s)=true:=by simp[Ax]
def AX(b o l c:Nat):Ax (.slice (some ⟨b,o,none⟩) l c) (.slice (some ⟨b,o,none⟩) l c)=true:=by simp[Ax,Gt]
def Qz(l c:Nat):Ax (.slice none l c) (.slice none l c)=true:=by simp[Ax]
def Wu(b o:Nat):Ax (.pointer (some ⟨b,o,none⟩)) (.pointer (some ⟨b,o,none⟩))=true:=by simp[Ax,Gt]
def pI{cs:Array ad}(h:Y6 cs.toList cs.toList=true):iw (.agg cs) (.agg cs)=true:=h
def UI(a b c d:ad)(h1:Ax a a=true)(h2:Ax b b=true)(h3:Ax c c=true)(h4:Ax d d=true):iw (.agg #[a,b,c,d]) (.agg #[a,b,c,d])=true:=pI (by simp[Y6,h1,h2,h3,h4])
def fJ(b o l c:Nat):iw (.slice (some ⟨b,o,none⟩) l c) (.slice (some ⟨b,o,none⟩) l c)=true:=AX b o l c
def UU(l c:Nat):iw (.slice none l c) (.slice none l c)=true:=Qz l c
def Yz(b o:Nat):iw (.pointer (some ⟨b,o,none⟩)) (.pointer (some ⟨b,o,none⟩))=true:=Wu b o
def cV{u v:ad}{W':AW}:jP true (some (u,W')) v=iw u v:=aT rfl rfl
end
def Ok{ρ:Type}(t:Option ρ)(G:ρ->Prop):Prop:=∃x,t=some x/\G x
def af{ρ:Type}{x:ρ}{G:ρ->Prop}:Ok (some x) G<->G x:=⟨λ⟨y,h,g⟩=>by injection h with h;subst h;exact g,λg=>⟨x,rfl,g⟩⟩
def Ok.mono{ρ:Type}{t:Option ρ}{G H:ρ->Prop}(h:Ok t G)(hg:∀x,G x->H x):Ok t H:=let⟨x,a,b⟩:=h;⟨x,a,hg x b⟩
def a8{ρ:Type}{body:ai.Fr->AW->Option LT}{R:ai.Fr}{W:AW}{K:LT->Option ρ}{G:ρ->Prop}(n:Nat)(hn:n<1000000)(I:Nat->ai.Fr->AW->Prop)(Q:LT->Prop)(h0:I 0 R W)
 (hs:∀k R W,k<n->I k R W->Ok (body R W) λr=>(r.1=.normal/\I (k+1) r.2.1 r.2.2)\/(r.1≠ .normal/\Q r))
 (he:∀R W,I n R W->Ok (body R W) λr=>r.1≠ .normal/\Q r)(hk:∀r,Q r->Ok (K r) G):Ok (eY (fV body R W) K) G:=by
 obtain⟨r,h1,h2⟩:=YW n hn I Q h0 hs he;rw[h1,Ee];exact hk r h2
def aQ{o t:Option (ad×AW)}{v:ad}{W:AW}(hv:(bN v&& !Yq v)=true)(h:Ok t λr=>r.1=v/\Le W r.2)(Nq:∀{r},t=some r->o=some (gc W r)):o=some (v,W):=by obtain⟨⟨u,W'⟩,h1,h2,h3⟩:=h;simp only at h2;subst h2;rw[Nq h1,zi hv h3]
def Row{α:Type}(W:AW)(z:Nat)(at_:List ad->Nat->α->Prop)(v:ad)(l:List α):Prop:=
 ∃a c,v=.slice a l.length c/\(l=[]\/∃b o cs,a=some ⟨b,o,none⟩/\b<W.next/\aH W b=some cs/\∀i (h:i<l.length),at_ cs (o+i*z) l[i])
def Lw(k:be)(cs:List ad)(p:Nat)(n:Int):Prop:=cs[p]? =some (.int k n)
abbrev dR(W:AW)(v:ad)(l:List Int):Prop:=Row W 1 (Lw .i64) v l
def Row.mono{α:Type}{W W':AW}{z:Nat}{at_:List ad->Nat->α->Prop}{v:ad}{l:List α}(h:Row W z at_ v l)(aM:Le W W'):Row W' z at_ v l:=by
 obtain⟨a,c,rfl,h⟩:=h;refine⟨a,c,rfl,?_⟩;rcases h with h|⟨b,o,cs,h1,h2,h3,h4⟩
 ·exact .inl h
 ·exact .inr ⟨b,o,cs,h1,fb h2 aM.next,by rw[aM.aH h2];exact h3,h4⟩
def Row.len{α:Type}{W:AW}{z:Nat}{at_:List ad->Nat->α->Prop}{v:ad}{l:List α}(h:Row W z at_ v l){P:ah}{ts:Array ag}{e:ag}(ht:(ts[0]?).bind P.underlying=some (.slice e))(W':AW)(ty:ag)(cf:Array Bool):
 aZ P .len ts ty cf [v] W'=some (.ae l.length,W'):=by
 obtain⟨a,c,rfl,_⟩:=h;exact df ht _ _ _
def Row.elem{α:Type}{W:AW}{z:Nat}{at_:List ad->Nat->α->Prop}{v:ad}{l:List α}(h:Row W z at_ v l){i:Nat}(hi:i<l.length):
 ∃b o cs,(∀W' k,nY z v (.int k (i:Int)) W'=some (.pointer (some ⟨b,o,none⟩),W'))/\b<W.next/\aH W b=some cs/\at_ cs o l[i]:=by
 obtain⟨a,c,rfl,h⟩:=h;rcases h with rfl|⟨b,o,cs,rfl,h2,h3,h4⟩
 ·simp at hi
 ·exact⟨b,o+i*z,cs,λW' k=>rH hi,h2,h3,h4 i hi⟩
def dR.get{W:AW}{v:ad}{l:List Int}(h:dR W v l){i:Nat}(hi:i<l.length):
 ∃p,(∀W' k,nY 1 v (.int k (i:Int)) W'=some (p,W'))/\∀W',Le W W'->bu p W'=some (.ae l[i],W'):=by
 obtain⟨b,o,cs,h1,h2,h3,h4⟩:=h.elem hi;exact⟨_,h1,λW' aM=>aP (by rw[aM.aH h2];exact h3) h4⟩
end
end Go.Eng
namespace Go.Eng
open Go Go.RowKit
section
variable [ai]
def T3:Option (ad×AW)->Bool
 |some (v,_)=>match v with
  |.bool b=>b
  |_=>false
 |none=>false
def ZD{r:Option (ad×AW)}(h:T3 r=true):∃W,r=some (.bool true,W):=by
 unfold T3 at h;split at h
 ·rename_i v W;split at h
  ·subst h;exact⟨W,rfl⟩
  ·cases h
 ·cases h
def TP{P:ah}{ng:List Nat}:cl P ng (λ_ _ _=>none):=λf args W v W' h=>by cases h
def T7(W w':ar):Prop:=W.keptBut w' (λ_=>False)/\(∀a:bg,a.block<W.heap.size->w'.frozen? a=W.frozen? a)/\W.heap.size<=w'.heap.size
def T7.frame{W w':ar}(h:T7 W w')(may:eB->Prop):W.keptBut w' may:=World.keptBut_mono (λ_ f=>f.elim) h.1
def UN{σ:dx}:∀{args:List ad},args.all bN=true->LR σ args args:=by intro args h;exact LR.qh (λv=>jJ) h
end
section
variable [ai]
def σG(gs:List (Nat×List ad)):dx:=λb=>(gs.find? (λx=>x.1==b)).map λx=>⟨x.1,0,x.2.length⟩
def Jo(gs:List (Nat×List ad)):T dH:=gs.foldr (λx t=>T.set (some (.ro x.2)) (path x.1) t) .lf
def WG(gs:List (Nat×List ad))(N:Nat):AW:=⟨Jo gs,N⟩
def BD(b:Nat):∀gs:List (Nat×List ad),T.get (path b) (Jo gs)=(gs.find? (λx=>x.1==b)).map λx=>dH.ro x.2
 |[]=>T.E3 _
 |x::gs=>by
  show T.get (path b) (T.set (some (.ro x.2)) (path x.1) (Jo gs))=_;by_cases h:x.1=b
  ·subst h;rw[T.oQ];simp
  ·rw[T.iE _ _ _ _ (AL h),BD b gs];have hb:(x.1==b)=false:=by simpa using h
   rw[List.find?_cons,hb]
def GN(gs:List (Nat×List ad))(h:Array Obj):Prop:=
 ∀x∈gs,∃c t fr,h[x.1]? =some (.cells c t fr)/\∀(i:Nat) (v:ad),x.2[i]? =some v->c[i]? =some v/\cC v=true
def wM{gs:List (Nat×List ad)}{b:Nat}{g:At}(h:σG gs b=some g):∃x∈gs,x.1=b/\g=⟨b,0,x.2.length⟩/\T.get (path b) (Jo gs)=some (dH.ro x.2):=by
 unfold σG at h;cases hf:gs.find? (λx=>x.1==b)with
 |none=>rw[hf]at h;cases h
 |some x=>
  rw[hf]at h;have hb:x.1=b:=by simpa using List.find?_some hf
  refine⟨x,PY hf,hb,?_,?_⟩
  ·cases h;subst hb;rfl
  ·show T.get (path b) (Jo gs)=_;rw[BD,hf];rfl
def ajc{gs:List (Nat×List ad)}{N:Nat}(hN:gs.all (λx=>Nat.blt x.1 N)=true){h:Array Obj}(hl:GN gs h):bI (σG gs) (WG gs N) h where
 free b hb:=by
  show T.get (path b) (Jo gs)=none;rw[BD];cases hf:gs.find? (λx=>x.1==b)with
  |none=>rfl
  |some x=>
   have Z0:x.1=b:=by simpa using List.find?_some hf
   have:=dd.1 hN x (PY hf);have:x.1<N:=by simpa[jH]using this
   exact absurd hb (by show¬N<=b;omega)
 qP b g hb:=by
  obtain⟨x,hx,rfl,rfl,_⟩:=wM hb;obtain⟨c,t,fr,h1,_⟩:=hl x hx;have:=dd.1 hN x hx;have h3:x.1<N:=by simpa[jH]using this
  exact⟨h3,(eS.1 h1).1⟩
 obj b o g hb hg:=by obtain⟨x,hx,rfl,rfl,ht⟩:=wM hg;obtain⟨c,t,fr,h1,h2⟩:=hl x hx;obtain rfl:o=.ro x.2:=AO (hb.symm.trans ht);exact⟨c,t,fr,h1,by simp,λi v hv=>⟨v,by simpa using(h2 i v hv).1,fK (h2 i v hv).2⟩⟩
 vN b1 b2 o1 o2 g1 g2 fe _ _ h1 h2 _:=by obtain⟨x1,_,rfl,rfl,_⟩:=wM h1;obtain⟨x2,_,rfl,rfl,_⟩:=wM h2;exact .inl fe
def aeZ{gs:List (Nat×List ad)}{ng:List Nat}(h:ng.all (λg=>(gs.find? (λx=>x.1==g)).isSome)=true):BM (σG gs) ng:=by
 intro g hg;have:=dd.1 h g hg;cases hf:gs.find? (λx=>x.1==g)with
 |none=>rw[hf]at this;cases this
 |some x=>
  have Z0:x.1=g:=by simpa using List.find?_some hf
  exact⟨x.2.length,by unfold σG;rw[hf];subst Z0;rfl⟩
def aqh{gs:List (Nat×List ad)}{N:Nat}{B:Nat}:¬Mut (σG gs) (WG gs N) B:=by rintro⟨b,g,hg,_,uN⟩;obtain⟨x,_,_,_,ht⟩:=wM hg;exact uN x.2 ht
end
end Go.Eng
namespace Go.Eng
open Go Go.RowKit Go.ChangeShapes
section
variable {H:Type} {enc:ag×ad->H} {P:ah} {w:ar} {base:Nat} {adi:Nat->Bool} {held:Bool}
end
end Go.Eng
namespace Go.Eng
open Go Go.RowKit
open Go.Maps (Keyed)
section
variable [ai]
section
variable {H:Type}
def ent(j:Nat)(g b:Bool):List (Lit×cq H):=match g with|true=>[(.ae ((2^ j:Nat):Int),.lit (.bool b))]|false=>[]
def OU(g0 g1 g2 g3 g4 g5 g6 g7 b0 b1 b2 b3 b4 b5 b6 b7:Bool):cq H:=
 .map (ent 0 g0 b0++(ent 1 g1 b1++(ent 2 g2 b2++(ent 3 g3 b3++(ent 4 g4 b4++(ent 5 g5 b5++(ent 6 g6 b6++ent 7 g7 b7)))))))
variable (g0 g1 g2 g3 g4 g5 g6 g7 b0 b1 b2 b3 b4 b5 b6 b7:Bool)
def auH:(OU (H:=H) g0 g1 g2 g3 g4 g5 g6 g7 b0 b1 b2 b3 b4 b5 b6 b7).put (.ae 1) (.lit (.bool b0))=OU true g1 g2 g3 g4 g5 g6 g7 b0 b1 b2 b3 b4 b5 b6 b7:=by cases g0<;>cases g1<;>cases g2<;>cases g3<;>cases g4<;>cases g5<;>cases g6<;>cases g7<;>rfl
def asu:(OU (H:=H) g0 g1 g2 g3 g4 g5 g6 g7 b0 b1 b2 b3 b4 b5 b6 b7).put (.ae 2) (.lit (.bool b1))=OU g0 true g2 g3 g4 g5 g6 g7 b0 b1 b2 b3 b4 b5 b6 b7:=by cases g0<;>cases g1<;>cases g2<;>cases g3<;>cases g4<;>cases g5<;>cases g6<;>cases g7<;>rfl
def avJ:(OU (H:=H) g0 g1 g2 g3 g4 g5 g6 g7 b0 b1 b2 b3 b4 b5 b6 b7).put (.ae 4) (.lit (.bool b2))=OU g0 g1 true g3 g4 g5 g6 g7 b0 b1 b2 b3 b4 b5 b6 b7:=by cases g0<;>cases g1<;>cases g2<;>cases g3<;>cases g4<;>cases g5<;>cases g6<;>cases g7<;>rfl
def av0:(OU (H:=H) g0 g1 g2 g3 g4 g5 g6 g7 b0 b1 b2 b3 b4 b5 b6 b7).put (.ae 8) (.lit (.bool b3))=OU g0 g1 g2 true g4 g5 g6 g7 b0 b1 b2 b3 b4 b5 b6 b7:=by cases g0<;>cases g1<;>cases g2<;>cases g3<;>cases g4<;>cases g5<;>cases g6<;>cases g7<;>rfl
def avs:(OU (H:=H) g0 g1 g2 g3 g4 g5 g6 g7 b0 b1 b2 b3 b4 b5 b6 b7).put (.ae 16) (.lit (.bool b4))=OU g0 g1 g2 g3 true g5 g6 g7 b0 b1 b2 b3 b4 b5 b6 b7:=by cases g0<;>cases g1<;>cases g2<;>cases g3<;>cases g4<;>cases g5<;>cases g6<;>cases g7<;>rfl
def auA:(OU (H:=H) g0 g1 g2 g3 g4 g5 g6 g7 b0 b1 b2 b3 b4 b5 b6 b7).put (.ae 32) (.lit (.bool b5))=OU g0 g1 g2 g3 g4 true g6 g7 b0 b1 b2 b3 b4 b5 b6 b7:=by cases g0<;>cases g1<;>cases g2<;>cases g3<;>cases g4<;>cases g5<;>cases g6<;>cases g7<;>rfl
def awb:(OU (H:=H) g0 g1 g2 g3 g4 g5 g6 g7 b0 b1 b2 b3 b4 b5 b6 b7).put (.ae 64) (.lit (.bool b6))=OU g0 g1 g2 g3 g4 g5 true g7 b0 b1 b2 b3 b4 b5 b6 b7:=by cases g0<;>cases g1<;>cases g2<;>cases g3<;>cases g4<;>cases g5<;>cases g6<;>cases g7<;>rfl
def at1:(OU (H:=H) g0 g1 g2 g3 g4 g5 g6 g7 b0 b1 b2 b3 b4 b5 b6 b7).put (.ae 128) (.lit (.bool b7))=OU g0 g1 g2 g3 g4 g5 g6 true b0 b1 b2 b3 b4 b5 b6 b7:=by cases g0<;>cases g1<;>cases g2<;>cases g3<;>cases g4<;>cases g5<;>cases g6<;>cases g7<;>rfl
end
def TQ{H:Type}{P:ah}{k e t:ag}{w:ar}{R:ad->Option (cq H×List eB)}{b n:Nat}{D:cq H}(h:w.ownsMap P k R b n D)(K:Keyed P k)(ht:P.underlying t=some (.map k e))(hn:n<maxLen){key val:ad}{kl:Lit}{d:cq H}{ps:List eB}
 (RT:keyOf P k key=some kl)(hv:R val=some (d,ps)):∃w',(Instr.mapUpdate t (.map (some b)) key val).run P w=.ok () w'/\w'.ownsMap P k R b (n+1) (D.put kl d)/\w.grownBy w' (some b)/\w'.heap.size=w.heap.size:=by
 obtain⟨w',h1,h2,h3⟩:=h.update K ht hn RT hv;obtain⟨es,nP,hb,F,hs,rfl⟩:=h;obtain⟨iM,avX,lZ,_⟩:=Maps.fit_store (R':=R) K ht hb F (Nat.lt_of_le_of_lt hs hn) (λ_ _ _ _ hz=>hz) RT hv;refine⟨w',h1,h2,h3,?_⟩;rw[lZ]at h1;injection h1 with _ h1;rw[<-h1];simp[Go.ChangeMaps.setBlock]
def SW{H:Type}{P:ah}{k:ag}{w:ar}{R:ad->Option (cq H×List eB)}{b n:Nat}{D:cq H}(h:w.ownsMap P k R b n D){a:bg}(ha:a.block=b):w.frozen? a=false:=by obtain⟨es,nP,hb,_⟩:=h;unfold World.frozen?;rw[ha,hb]
def sk{w:ar}{a:bg}(h:w.heap.size<=a.block):w.frozen? a=false:=by unfold World.frozen?;rw[AG h]
def Gp{σ0 σ:dx}{W0 W:AW}{w0 w w':ar}(h:fR σ0 W0 w0 σ W w){m:Nat}(hm:w0.heap.size<=m)(hg:w.grownBy w' (some m))(E1:∀a,w'.frozen? a=w.frozen? a):fR σ0 W0 w0 σ W w':=
 ⟨h.sub,h.ro,dW h.size hg.size,hg.os.trans h.os,hg.tape.trans h.tape,hg.output.trans h.output,
  λB hB hn=>(hg.block B (fb hB h.size) (λe=>by injection e with e;omega)).trans (h.keep B hB hn),h.ghost,h.grow⟩
def Fl{σ:dx}{W:AW}{w w':ar}(h:bI σ W w.heap){m:Nat}(hm:∀b g,σ b=some g->g.B≠m)(hg:w.grownBy w' (some m)):bI σ W w'.heap where
 free:=h.free
 qP b g hb:=⟨(h.qP b g hb).1,fb (h.qP b g hb).2 hg.size⟩
 obj b o g hb hσ:=(h.obj b o g hb hσ).same (hg.block _ (h.qP b g hσ).2 (λe=>by injection e with e;exact hm b g hσ e))
 vN:=h.vN
def CP(e:Nat)(o:am):Bool:=o.after.any λx=>Region.binds .any x&&Nat.beq x.on e
def iC{e:Nat}{o:am}{listed:Array Bool}(h:CP e o=true)(hr:∀x∈o.after,Region.binds .any x=true->listed.getD x.on false=true):listed.getD e false=true:=by unfold CP at h;rw[Array.any_eq_true']at h;obtain⟨x,hx,hb⟩:=h;rw[bA,fo]at hb;obtain⟨hb,rfl⟩:=hb;exact hr x hx hb
def aar(ops:Array am)(o:am)(x:au):Bool:=match x with
 |.const v=>bN v
 |.tmp t=>Nat.beq t 1||o.after.any λe=>Region.binds .any e&&(match ops[e.on]? with|some o'=>(match o'.dst with|some d=>Nat.beq d t&&(Nat.blt 14 d&&Nat.blt d 40)|none=>false)|none=>false)
 |_=>false
def VD(ops:Array am)(o:am):Bool:=o.guard.isNone&&(match o.dst with|some d=>Nat.blt 14 d&&Nat.blt d 40|none=>false)&&o.op.operands.toList.all (aar ops o)
def uF(ops:Array am)(TM key s k:Nat)(o:am):Bool:=o.guard.isNone&&o.dst.isNone&&CP 0 o&&CP k o&&
 (match o.op with|.insert t (.tmp m) (.const (.int .i64 (.ofNat n))) (.tmp v)=>Nat.beq t TM&&Nat.beq m 14&&Nat.beq n key&&Nat.beq v s&&Nat.blt 14 s&&Nat.blt s 40|_=>false)&&
 (match ops[k]? with|some o'=>(match o'.dst with|some d=>Nat.beq d s|none=>false)|none=>false)
def lD(ops:Array am)(TM:Nat)(i:Nat)(o:am):Bool:=match i with
 |0=>o.guard.isNone&&(match o.op,o.dst with|.makeMap t none,some d=>Nat.beq t TM&&Nat.beq d 14|_,_=>false)
 |4=>uF ops TM 1 17 3 o
 |8=>uF ops TM 2 20 7 o
 |12=>uF ops TM 4 23 11 o
 |16=>uF ops TM 8 26 15 o
 |20=>uF ops TM 16 29 19 o
 |24=>uF ops TM 32 32 23 o
 |29=>uF ops TM 64 36 28 o
 |33=>uF ops TM 128 39 32 o
 |34=>o.guard.isNone&&(match o.op,o.dst with|.move (.tmp x),some d=>Nat.beq x 14&&Nat.beq d 40|_,_=>false)&&(List.range 34).all λe=>CP e o
 |35=>o.guard.isNone&&(match o.op,o.dst with|.range t (.tmp x),some d=>Nat.beq t TM&&Nat.beq x 40&&Nat.beq d 41|_,_=>false)&&CP 34 o
 |_=>VD ops o
def kr(i:Nat):Bool:=match i with|0|4|8|12|16|20|24|29|33|34|35=>false|_=>true
def N6(i:Nat)(o:am):Bool:=o.after.all λe=>Nat.blt e.on i
def Py(ops:Array am)(TM:Nat):Bool:=Nat.beq ops.size 36&&(List.range 36).all λi=>match ops[i]? with|some o=>lD ops TM i o&&N6 i o|none=>false
def xk{P:ah}{ops:Array am}{Q:dr->bw->ar->Prop}{i:Nat}{K:bw->ar->Prop}{a:bw}{w w':ar}{o:am}{v:ad}(ho:ops[i]? =some o)(hg:o.guard=none)
 (h:(execOp a.eval o).run P w=.ok (.value v) w')(hk:K (a.put o.dst v) w'):wpOp P ops Q i K a w:=by
 unfold wpOp;rw[ho];have:Region.wanted o (yielded ops a.tmps)=true:=by unfold Region.wanted;rw[hg]
 simp only[this,bi];refine .inl ?_;unfold Oper.wp;rw[h];exact hk
def MZ{P:ah}{ops:Array am}{Q:dr->bw->ar->Prop}{i:Nat}{K:bw->ar->Prop}{a:bw}{w w':ar}{o:am}(ho:ops[i]? =some o)(hg:o.guard=none)
 (h:(execOp a.eval o).run P w=.ok .skip w')(hk:K (a.put o.dst ak) w'):wpOp P ops Q i K a w:=by
 unfold wpOp;rw[ho];have:Region.wanted o (yielded ops a.tmps)=true:=by unfold Region.wanted;rw[hg]
 simp only[this,bi];refine .inl ?_;unfold Oper.wp;rw[h];exact hk
section
variable {P:ah} {ops:Array am} {nt TM TK TE:Nat} {σ0:dx} {W:AW} {R:ai.Fr} {w0:ar} {rj:Array ad} {ds:List eA} {b0 b1 b2 b3 b4 b5 b6 b7:Bool} {l:Array Bool} {a:bw} {w:ar}
def Dl(l:Array Bool)(b0 b1 b2 b3 b4 b5 b6 b7:Bool):cq Unit:=
 OU (l.getD 4 false) (l.getD 8 false) (l.getD 12 false) (l.getD 16 false) (l.getD 20 false) (l.getD 24 false) (l.getD 29 false) (l.getD 33 false) b0 b1 b2 b3 b4 b5 b6 b7
structure RB (ops:Array am) (nt:Nat) (rj:Array ad) (ds:List eA) (l:Array Bool) (a:bw):Prop where
 Cc:l.size=36
 Tv:a.tmps.size=nt
 dfs:a.defers=ds
 down:∀i,l.getD i false=true->∀o,ops[i]? =some o->∀e∈o.after,Region.binds .any e=true->l.getD e.on false=true
 yU:∀t,(t<14\/41<t)->a.tmps[t]? =rj[t]?
def RM(P:ah)(TK TE:Nat)(w0:ar)(b0 b1 b2 b3 b4 b5 b6 b7:Bool)(l:Array Bool)(a:bw)(w:ar)(σ:dx)(m n:Nat):Prop:=
 (∀b g,σ b=some g->g.B≠m)/\w0.heap.size<=m/\a.tmps.getD 14 ak=.map (some m)/\n<=(List.range 36).countP (λi=>l.getD i false)/\(l.getD 34 false=true->a.tmps.getD 40 ak=.map (some m))/\
  (l.getD 35 false=false->w.ownsMap P TK (plainElem P TE) m n (Dl l b0 b1 b2 b3 b4 b5 b6 b7))/\
  (l.getD 35 false=true->∃r,a.tmps.getD 41 ak=.pointer (some ⟨r,0,none⟩)/\(∀b g,σ b=some g->g.B≠r)/\w0.heap.size<=r/\
    w.ranges P TK (plainElem P TE) m r n (Dl l b0 b1 b2 b3 b4 b5 b6 b7) (Maps.has (Dl l b0 b1 b2 b3 b4 b5 b6 b7)) (Maps.size (Dl l b0 b1 b2 b3 b4 b5 b6 b7)))
structure RI (P:ah) (ops:Array am) (nt TK TE:Nat) (σ0:dx) (W:AW) (R:ai.Fr) (w0:ar) (rj:Array ad) (ds:List eA) (b0 b1 b2 b3 b4 b5 b6 b7:Bool)
 (l:Array Bool) (a:bw) (w:ar):Prop where
 base:RB ops nt rj ds l a
 awo:∃σ,bI σ W w.heap/\fR σ0 W w0 σ W w/\(∀i o d,ops[i]? =some o->kr i=true->l.getD i false=true->o.dst=some d->VR σ (du R d) (a.tmps.getD d ak))/\
  (l.getD 0 false=true->∃m n,RM P TK TE w0 b0 b1 b2 b3 b4 b5 b6 b7 l a w σ m n)
structure RF (P:ah) (ops:Array am) (nt TM TK TE:Nat) (σ0:dx) (W:AW) (R:ai.Fr) (rj:Array ad) (b0 b1 b2 b3 b4 b5 b6 b7:Bool):Prop where
 size:ops.size=36
 shape:∀i o,ops[i]? =some o->lD ops TM i o=true
 back:∀i o,ops[i]? =some o->N6 i o=true
 av9:∀i o d,ops[i]? =some o->kr i=true->o.dst=some d->∀(σ:dx) (w:ar) (ρ:au->ad),bI σ W w.heap->(∀x∈o.op.operands,VR σ (aE R x) (ρ x))->lC P σ W w (execOp ρ o) (du R d) W
 v0:du R 17=.bool b0
 v1:du R 20=.bool b1
 v2:du R 23=.bool b2
 v3:du R 26=.bool b3
 v4:du R 29=.bool b4
 v5:du R 32=.bool b5
 v6:du R 36=.bool b6
 v7:du R 39=.bool b7
 ptr:VR σ0 (du R 1) (rj.getD 1 ak)
 nt:42<=nt
 TM:P.underlying TM=some (.map TK TE)
 TK:P.underlying TK=some (.int .i64)
 TE:P.underlying TE=some .bool
def Bh{l:Array Bool}{i:Nat}(hi:i<36)(hs:l.size=36)(h:l.getD i false=false):(List.range 36).countP (λk=>l.getD k false)+1<=(List.range 36).countP (λk=>(l.setIfInBounds i true).getD k false):=by
 refine NR (x:=i) (by simpa using hi) (dK (by omega) false) h λy hy=>?_
 by_cases e:i=y
 ·subst e;exact dK (by omega) false
 ·rw[bm e];exact hy
def ad9{l:Array Bool}:(List.range 36).countP (λk=>l.getD k false)<=36:=by have:=List.countP_le_length (p:=λk=>l.getD k false) (l:=List.range 36);simpa using this
def pN{l:Array Bool}{i:Nat}(h:l.getD i true=false)(hi:i<l.size):l.getD i false=false:=by simp only[AB]at h|-;rw[jN hi]at h|-;exact h
def F5(hF:RF P ops nt TM TK TE σ0 W R rj b0 b1 b2 b3 b4 b5 b6 b7){i:Nat}{o:am}(ho:ops[i]? =some o):o.guard=none/\(kr i=true->(∃d,o.dst=some d/\14<d/\d<40)/\o.op.operands.toList.all (aar ops o)=true)/\
 (∀d,o.dst=some d->14<=d/\d<=41)/\(∀d,o.dst=some d->14<d->d<40->kr i=true):=by
 have hs:=hF.shape i o ho;by_cases hp:kr i=true
 ·have hq:VD ops o=true:=by unfold lD at hs;unfold kr at hp;split at hs<;>first|exact hs|(simp at hp;done)
  unfold VD at hq;simp only[bA,Ew]at hq;obtain⟨⟨h1,h2⟩,h3⟩:=hq;cases hd:o.dst with
  |none=>rw[hd]at h2;cases h2
  |some d=>rw[hd]at h2;simp only[bA,jH]at h2;refine⟨h1,λ_=>⟨⟨d,rfl,h2⟩,h3⟩,λd' e=>?_,λ_ _ _ _=>hp⟩;injection e with e;subst e;exact⟨Nat.le_of_lt h2.1,Nat.le_of_lt (Nat.lt_trans h2.2 (by decide))⟩
 ·refine⟨?_,λh=>absurd h hp,?_,?_⟩
  ·unfold lD at hs;unfold kr at hp;split at hs<;>simp_all[uF]
  ·intro d hd;unfold lD at hs;unfold kr at hp;split at hs<;>simp_all[uF];all_goals(first|(split at hs<;>simp_all)|skip)
   all_goals omega
  ·intro d hd h1 h2;exfalso;unfold lD at hs;unfold kr at hp;split at hs<;>simp_all[uF];all_goals(first|(split at hs<;>simp_all)|skip)
   all_goals omega
def RB.step(hB:RB ops nt rj ds l a)(hF:RF P ops nt TM TK TE σ0 W R rj b0 b1 b2 b3 b4 b5 b6 b7){i:Nat}{o:am}(ho:ops[i]? =some o)
 (hr:∀e∈o.after,Region.binds .any e=true->l.getD e.on false=true)(v:ad):RB ops nt rj ds (l.setIfInBounds i true) (a.put o.dst v):=by
 obtain⟨_,_,hd,_⟩:=F5 hF ho;have hi:i<l.size:=by rw[hB.Cc,<-hF.size];exact(eS.1 ho).1
 have Cs:∀k,l.getD k false=true->(l.setIfInBounds i true).getD k false=true:=λk hk=>by
  by_cases e:i=k
  ·subst e;exact dK hi _
  ·rw[bm e];exact hk
 refine⟨by simp[hB.Cc],by rw[Ky];exact hB.Tv,by rw[tO];exact hB.dfs,?_,?_⟩
 ·intro k hk o' Rw e he hb;by_cases e1:i=k
  ·subst e1;rw[ho]at Rw;injection Rw with Rw;subst Rw;exact Cs _ (hr e he hb)
  ·rw[bm e1]at hk;exact Cs _ (hB.down k hk o' Rw e he hb)
 ·intro t ht;rw[<-hB.yU t ht];cases hq:o.dst with
  |none=>rfl
  |some d=>
   have:=hd d hq;show(a.tmps.setIfInBounds d v)[t]? =a.tmps[t]?;rw[F1];rintro rfl;rcases ht with h|h
   ·exact absurd (fb h this.1) (Nat.lt_irrefl _)
   ·exact absurd (fb h this.2) (Nat.lt_irrefl _)
def WI{σ σ':dx}{W W':AW}{w w':ar}(he:fR σ W w σ' W' w'){m:Nat}(hm:m<w.heap.size)(hn:∀b g,σ b=some g->g.B≠m):(∀b g,σ' b=some g->g.B≠m)/\w'.heap[m]? =w.heap[m]? :=by
 have hnm:¬Mut σ W m:=by rintro⟨b,g,h1,h2,_⟩;exact hn b g h1 h2
 refine⟨λb g hb e=>?_,he.keep m hm hnm⟩;subst e;rcases he.grow b g hb hm with h1|h1
 ·exact hn b g h1 rfl
 ·exact hnm h1
def abA{H:Type}{k:ag}{w w':ar}{Re:ad->Option (cq H×List eB)}{b n:Nat}{D:cq H}(h:w.ownsMap P k Re b n D)(e:w'.heap[b]? =w.heap[b]?):w'.ownsMap P k Re b n D:=by obtain⟨es,nP,hb,r⟩:=h;exact⟨es,nP,e.trans hb,r⟩
def XP(hF:RF P ops nt TM TK TE σ0 W R rj b0 b1 b2 b3 b4 b5 b6 b7)(hI:RI P ops nt TK TE σ0 W R w0 rj ds b0 b1 b2 b3 b4 b5 b6 b7 l a w){i:Nat}{o:am}(ho:ops[i]? =some o)(hl:l.getD i true=false)
 (hr:∀e∈o.after,Region.binds .any e=true->l.getD e.on false=true)(hp:kr i=true){Q:dr->bw->ar->Prop}{K:bw->ar->Prop}
 (hK:∀a' w',RI P ops nt TK TE σ0 W R w0 rj ds b0 b1 b2 b3 b4 b5 b6 b7 (l.setIfInBounds i true) a' w'->K a' w'):wpOp P ops Q i K a w:=by
 obtain⟨hg,hpd,_,Hi⟩:=F5 hF ho;obtain⟨⟨d,hd,hd1,hd2⟩,db⟩:=hpd hp;obtain⟨hB,σ,hW,hE,yv,jM⟩:=hI;have hi:i<l.size:=by rw[hB.Cc,<-hF.size];exact(eS.1 ho).1
 have OF:=pN hl hi;have hρ:∀x∈o.op.operands,VR σ (aE R x) (a.eval x):=by
  intro x hx;have hx1:=dd.1 db x (by simpa using hx);unfold aar at hx1;split at hx1
  ·exact jJ hx1
  ·rename_i t;rw[pd]at hx1;show VR σ (du R t) (a.tmps.getD t ak);rcases hx1 with h1|h1
   ·obtain rfl:t=1:=by simpa using h1
    have:a.tmps.getD 1 ak=rj.getD 1 ak:=by simp only[AB];rw[hB.yU 1 (.inl (by decide))]
    rw[this];exact hF.ptr.mono hE.sub
   ·rw[Array.any_eq_true']at h1;obtain⟨e,he,hb⟩:=h1;rw[bA]at hb;obtain⟨As,lA⟩:=hb;split at lA
    ·rename_i o' Rw;split at lA
     ·rename_i d' ke;simp only[bA,fo,jH]at lA;obtain⟨rfl,h3,h4⟩:=lA;exact yv e.on o' d' Rw ((F5 hF Rw).2.2.2 d' ke h3 h4) (hr e he As) ke
     ·cases lA
    ·cases lA
  ·cases hx1
 obtain⟨σ',nx,v',w',lZ,Mi,hv,hW',hE'⟩:=hF.av9 i o d ho hp hd σ w a.eval hW hρ;have mf:RI P ops nt TK TE σ0 W R w0 rj ds b0 b1 b2 b3 b4 b5 b6 b7 (l.setIfInBounds i true) (a.put o.dst v') w':=by
  refine⟨hB.step hF ho hr v',σ',hW',hE.trans hE',?_,?_⟩
  ·intro k o' d' Rw Dc Cy ke;by_cases e:i=k
   ·subst e;rw[ho]at Rw;injection Rw with Rw;subst Rw;rw[hd]at ke;injection ke with ke;subst ke;rw[tC hd (by rw[hB.Tv];exact fb hd2 (dW (by decide) hF.nt))];exact hv
   ·rw[bm e]at Cy;by_cases e2:d'=d
    ·subst e2;rw[tC hd (by rw[hB.Tv];exact fb hd2 (dW (by decide) hF.nt))];exact hv
    ·rw[jt (by rw[hd];intro e3;injection e3 with e3;exact e2 e3.symm)];exact(yv k o' d' Rw Dc Cy ke).mono hE'.sub
  ·intro h0;have fe:∀k,kr k=false->(l.setIfInBounds i true).getD k false=l.getD k false:=λk hk=>bm (λe=>by subst e;rw[hp]at hk;cases hk) _
   have dX:∀t,(t=14\/39<t)->(a.put o.dst v').tmps.getD t ak=a.tmps.getD t ak:=λt ht=>jt (by
    rw[hd];intro e3;injection e3 with e3;subst e3;rcases ht with h|h
    ·subst h;exact absurd hd1 (by decide)
    ·exact absurd hd2 (by intro h5;exact absurd (fb h5 h) (Nat.lt_irrefl _)));rw[fe 0 rfl]at h0;obtain⟨m,n,k1,k2,k3,k4,k5,k6,k7⟩:=jM h0;have hD:Dl (l.setIfInBounds i true) b0 b1 b2 b3 b4 b5 b6 b7=Dl l b0 b1 b2 b3 b4 b5 b6 b7:=by
    unfold Dl;rw[fe 4 rfl,fe 8 rfl,fe 12 rfl,fe 16 rfl,fe 20 rfl,fe 24 rfl,fe 29 rfl,fe 33 rfl]
   have mC:m<w.heap.size:=by
    cases hq:l.getD 35 false with
    |false=>exact(k6 hq).lt
    |true=>obtain⟨r,_,_,_,S8⟩:=k7 hq;exact S8.owns.lt
   obtain⟨q1,q2⟩:=WI hE' mC k1;refine⟨m,n,q1,k2,by rw[dX 14 (.inl rfl)];exact k3,dW k4 (dW (Nat.le_succ _) (Bh (by rw[<-hB.Cc];exact hi) hB.Cc OF)),λh=>?_,λh=>?_,λh=>?_⟩
   ·rw[fe 34 rfl]at h;rw[dX 40 (.inr (by decide))];exact k5 h
   ·rw[fe 35 rfl]at h;rw[hD];exact abA (k6 h) q2
   ·rw[fe 35 rfl]at h;obtain⟨r,p1,p2,p3,p4⟩:=k7 h;have av1:r<w.heap.size:=by obtain⟨es,nP,since,seen,c0,_,_,_,_,hr,_⟩:=p4;exact(eS.1 hr).1
    obtain⟨q3,q4⟩:=WI hE' av1 p2;refine⟨r,by rw[dX 41 (.inr (by decide))];exact p1,q3,p3,?_⟩;rw[hD];obtain⟨es,nP,since,seen,c0,z1,z2,z3,z4,z5,z6⟩:=p4;exact⟨es,nP,since,seen,c0,q2.trans z1,z2,z3,z4,q4.trans z5,z6⟩
 rcases Mi with rfl|⟨rfl,rfl⟩
 ·exact xk ho hg lZ (hK _ _ mf)
 ·exact MZ ho hg lZ (hK _ _ mf)
def Xy(hF:RF P ops nt TM TK TE σ0 W R rj b0 b1 b2 b3 b4 b5 b6 b7)(hB:RB ops nt rj ds l a):
 (l.getD 35 false=true->l.getD 34 false=true)/\(l.getD 34 false=true->∀e,e<34->l.getD e false=true)/\(∀i,(i=4\/i=8\/i=12\/i=16\/i=20\/i=24\/i=29\/i=33)->l.getD i false=true->l.getD 0 false=true):=by
 have at_:∀i,i<36->∃o,ops[i]? =some o:=λi hi=>⟨ops[i]'(by rw[hF.size];exact hi),jN _⟩
 refine⟨λh=>?_,λh e he=>?_,λi hi h=>?_⟩
 ·obtain⟨o,ho⟩:=at_ 35 (by decide);have hs:=hF.shape 35 o ho;simp only[lD,bA]at hs;exact iC hs.2 (hB.down 35 h o ho)
 ·obtain⟨o,ho⟩:=at_ 34 (by decide);have hs:=hF.shape 34 o ho;simp only[lD,bA,dd]at hs;exact iC (hs.2 e (by simpa using he)) (hB.down 34 h o ho)
 ·obtain⟨o,ho⟩:=at_ i (by omega);have hs:=hF.shape i o ho;have:CP 0 o=true:=by rcases hi with rfl|rfl|rfl|rfl|rfl|rfl|rfl|rfl<;>(simp only[lD,uF,bA]at hs;exact hs.1.1.1.2)
  exact iC this (hB.down i h o ho)
def xz{σ:dx}(hF:RF P ops nt TM TK TE σ0 W R rj b0 b1 b2 b3 b4 b5 b6 b7){i:Nat}{o:am}(ho:ops[i]? =some o)(hp:kr i=false)
 (h:∀i o d,ops[i]? =some o->kr i=true->l.getD i false=true->o.dst=some d->VR σ (du R d) (a.tmps.getD d ak))(v:ad):
 ∀k o' d,ops[k]? =some o'->kr k=true->(l.setIfInBounds i true).getD k false=true->o'.dst=some d->VR σ (du R d) ((a.put o.dst v).tmps.getD d ak):=by
 intro k o' d Rw Dc hl hd;have e:i≠k:=λe=>by subst e;rw[hp]at Dc;cases Dc
 rw[bm e]at hl;obtain⟨_,hpd,_,_⟩:=F5 hF Rw;obtain⟨⟨d',ke,h1,h2⟩,_⟩:=hpd Dc;rw[hd]at ke;injection ke with ke;subst ke;rw[jt]
 ·exact h k o' d Rw Dc hl hd
 ·intro e2;have:=(F5 hF ho).2.2.2 d e2 h1 h2;rw[hp]at this;cases this
def O9{w:ar}{o:Obj}(ho:∀c t f,o≠ .cells c t f)(x:bg):(w.alloc o).frozen? x=w.frozen? x:=by
 by_cases h:x.block<w.heap.size
 ·exact World.frozen?_of_block ((EK w o none).block _ h (by simp))
 ·rw[sk (w:=w) (by omega)];by_cases e:x.block=w.heap.size
  ·unfold World.frozen?;rw[e];have:(w.alloc o).heap[w.heap.size]? =some o:=(MapKept.heap_alloc w o).1;rw[this];cases o<;>first|rfl|exact absurd rfl (ho _ _ _)
  ·refine sk ?_;have:(w.alloc o).heap.size=w.heap.size+1:=by simp
   omega
def ZB(hF:RF P ops nt TM TK TE σ0 W R rj b0 b1 b2 b3 b4 b5 b6 b7)(hI:RI P ops nt TK TE σ0 W R w0 rj ds b0 b1 b2 b3 b4 b5 b6 b7 l a w){o:am}(ho:ops[0]? =some o)(hl:l.getD 0 true=false)
 (hr:∀e∈o.after,Region.binds .any e=true->l.getD e.on false=true){Q:dr->bw->ar->Prop}{K:bw->ar->Prop}
 (hK:∀a' w',RI P ops nt TK TE σ0 W R w0 rj ds b0 b1 b2 b3 b4 b5 b6 b7 (l.setIfInBounds 0 true) a' w'->K a' w'):wpOp P ops Q 0 K a w:=by
 obtain⟨hB,σ,hW,hE,yv,jM⟩:=hI;have hi:0<l.size:=by rw[hB.Cc];decide
 have OF:=pN hl hi;obtain⟨n1,n2,n3⟩:=Xy hF hB;have hs:=hF.shape 0 o ho;simp only[lD,bA,Ew]at hs;obtain⟨hg,hs⟩:=hs;split at hs;case h_2=>cases hs
 rename_i t d vO hd;simp only[bA,fo]at hs;obtain⟨rfl,rfl⟩:=hs;have lZ:(execOp a.eval o).run P w=.ok (.value (.map (some w.heap.size))) (w.alloc (.map #[] 0)):=by simp[execOp,vO,run_makeMap]
 refine xk ho hg lZ (hK _ _ ⟨hB.step hF ho hr _,σ,?_,?_,xz hF ho rfl yv _,λ_=>⟨w.heap.size,0,?_,hE.size,?_,qg _,?_,?_,?_⟩⟩)
 ·exact Fl (m:=w.heap.size) hW (λb g hb=>Nat.ne_of_lt (hW.qP b g hb).2) ((EK w _ none).but _)
 ·exact Gp (m:=w.heap.size) hE hE.size ((EK w _ none).but _) (O9 (λ_ _ _ h=>by cases h))
 ·exactλb g hb=>Nat.ne_of_lt (hW.qP b g hb).2
 ·exact tC hd (by rw[hB.Tv];exact fb (by decide) hF.nt)
 ·intro h;rw[bm (by decide)]at h;rw[n2 h 0 (by decide)]at OF;cases OF
 ·intro _;have yW:∀i,(i=4\/i=8\/i=12\/i=16\/i=20\/i=24\/i=29\/i=33)->(l.setIfInBounds 0 true).getD i false=false:=λi hi=>by
   rw[bm (by omega)];cases hq:l.getD i false with
   |false=>rfl
   |true=>rw[n3 i hi hq]at OF;cases OF
  have hD:Dl (l.setIfInBounds 0 true) b0 b1 b2 b3 b4 b5 b6 b7=.map []:=by unfold Dl;rw[yW 4 (by simp),yW 8 (by simp),yW 12 (by simp),yW 16 (by simp),yW 20 (by simp),yW 24 (by simp),yW 29 (by simp),yW 33 (by simp)];rfl
  rw[hD];exact World.ownsMap_made _ _ _ _
 ·intro h;rw[bm (by decide)]at h;rw[n2 (n1 h) 0 (by decide)]at OF;cases OF
def qo(hF:RF P ops nt TM TK TE σ0 W R rj b0 b1 b2 b3 b4 b5 b6 b7)(hI:RI P ops nt TK TE σ0 W R w0 rj ds b0 b1 b2 b3 b4 b5 b6 b7 l a w){i key s k:Nat}{bj:Bool}{o:am}(ho:ops[i]? =some o)(hl:l.getD i true=false)
 (hr:∀e∈o.after,Region.binds .any e=true->l.getD e.on false=true)(hs:uF ops TM key s k o=true)(hp:kr i=false)(au9:i<34)(hi0:i≠0)(hv:du R s=.bool bj)(hwf:(Lit.int .i64 key).wf=true)
 (awc:(Dl l b0 b1 b2 b3 b4 b5 b6 b7).put (.ae key) (.lit (.bool bj))=Dl (l.setIfInBounds i true) b0 b1 b2 b3 b4 b5 b6 b7){Q:dr->bw->ar->Prop}{K:bw->ar->Prop}
 (hK:∀a' w',RI P ops nt TK TE σ0 W R w0 rj ds b0 b1 b2 b3 b4 b5 b6 b7 (l.setIfInBounds i true) a' w'->K a' w'):wpOp P ops Q i K a w:=by
 obtain⟨hB,σ,hW,hE,yv,jM⟩:=hI;have hi:i<l.size:=by rw[hB.Cc];omega
 have OF:=pN hl hi;obtain⟨n1,n2,n3⟩:=Xy hF hB;unfold uF at hs;simp only[bA,Ew]at hs;obtain⟨⟨⟨⟨⟨hg,hd⟩,e0⟩,ek⟩,vO⟩,hk⟩:=hs;split at vO;case h_2=>cases vO
 rename_i t m' n' v' au6;simp only[bA,fo,jH]at vO;obtain⟨⟨⟨⟨⟨rfl,rfl⟩,rfl⟩,rfl⟩,LP⟩,Du⟩:=vO;split at hk;case h_2=>cases hk
 rename_i ok mD;split at hk;case h_2=>cases hk
 rename_i dk hdk;obtain rfl:dk=v':=by simpa using hk
 have Pt:a.tmps.getD dk ak=.bool bj:=by have:=yv k ok dk mD ((F5 hF mD).2.2.2 dk hdk LP Du) (iC ek hr) hdk;rw[hv]at this;exact this.jY
 obtain⟨m,n,k1,k2,k3,k4,k5,k6,k7⟩:=jM (iC e0 hr);have h34:l.getD 34 false=false:=by
  cases hq:l.getD 34 false with
  |false=>rfl
  |true=>rw[n2 hq i au9]at OF;cases OF
 have S0:l.getD 35 false=false:=by
  cases hq:l.getD 35 false with
  |false=>rfl
  |true=>rw[n1 hq]at h34;cases h34
 have RT:keyOf P TK (.ae (n':Int))=some (.ae (n':Int)):=by simp[keyOf,mapKey,hF.TK,hwf]
 obtain⟨w',lZ,ajk,YH,vS⟩:=TQ (k6 S0) (Go.Maps.int_keyed hF.TK) hF.TM (Nat.lt_of_le_of_lt (dW k4 ad9) (by decide)) RT (plainElem_bool hF.TE bj);have adu:(execOp a.eval o).run P w=.ok .skip w':=by have e1:a.eval (.tmp 14)=.map (some m):=k3;have e2:a.eval (.tmp dk)=.bool bj:=Pt;have e3:a.eval (.const (.ae (Int.ofNat n')))=.ae (n':Int):=rfl;simp only[execOp,au6,e1,e2,e3];simp[lZ]
 refine MZ ho hg adu (hK _ _ ⟨hB.step hF ho hr _,σ,?_,?_,xz hF ho hp yv _,λ_=>⟨m,n+1,k1,k2,?_,?_,?_,?_,?_⟩⟩)
 ·exact Fl hW k1 YH
 ·refine Gp hE k2 YH λx=>?_
  by_cases e:x.block=m
  ·rw[SW (k6 S0) e,SW ajk e]
  ·by_cases h:x.block<w.heap.size
   ·exact World.frozen?_of_block (YH.block _ h (λe2=>by injection e2 with e2;exact e e2))
   ·rw[sk (w:=w) (by omega),sk (w:=w') (by omega)]
 ·rw[hd];exact k3
 ·exact dW (Nat.succ_le_succ k4) (Bh (by rw[<-hB.Cc];exact hi) hB.Cc OF)
 ·intro h;rw[bm (by omega),h34]at h;cases h
 ·intro _;rw[<-awc];exact ajk
 ·intro h;rw[bm (by omega),S0]at h;cases h
def XF(hF:RF P ops nt TM TK TE σ0 W R rj b0 b1 b2 b3 b4 b5 b6 b7)(hI:RI P ops nt TK TE σ0 W R w0 rj ds b0 b1 b2 b3 b4 b5 b6 b7 l a w){o:am}(ho:ops[34]? =some o)(hl:l.getD 34 true=false)
 (hr:∀e∈o.after,Region.binds .any e=true->l.getD e.on false=true){Q:dr->bw->ar->Prop}{K:bw->ar->Prop}
 (hK:∀a' w',RI P ops nt TK TE σ0 W R w0 rj ds b0 b1 b2 b3 b4 b5 b6 b7 (l.setIfInBounds 34 true) a' w'->K a' w'):wpOp P ops Q 34 K a w:=by
 obtain⟨hB,σ,hW,hE,yv,jM⟩:=hI;have hi:34<l.size:=by rw[hB.Cc];decide
 have OF:=pN hl hi;obtain⟨n1,n2,n3⟩:=Xy hF hB;have hs:=hF.shape 34 o ho;simp only[lD,bA,Ew,dd]at hs;obtain⟨⟨hg,hs⟩,hed⟩:=hs;split at hs;case h_2=>cases hs
 rename_i x d vO hd;simp only[bA,fo]at hs;obtain⟨rfl,rfl⟩:=hs;have h0:l.getD 0 false=true:=iC (hed 0 (by simp)) hr;obtain⟨m,n,k1,k2,k3,k4,k5,k6,k7⟩:=jM h0;have S0:l.getD 35 false=false:=by
  cases hq:l.getD 35 false with
  |false=>rfl
  |true=>rw[n1 hq]at OF;cases OF
 have lZ:(execOp a.eval o).run P w=.ok (.value (.map (some m))) w:=by have e1:a.eval (.tmp 14)=.map (some m):=k3;simp only[execOp,vO,e1];rfl
 have hD:Dl (l.setIfInBounds 34 true) b0 b1 b2 b3 b4 b5 b6 b7=Dl l b0 b1 b2 b3 b4 b5 b6 b7:=by unfold Dl;rw[bm (by decide),bm (by decide),bm (by decide),bm (by decide),bm (by decide),bm (by decide),bm (by decide),bm (by decide)]
 refine xk ho hg lZ (hK _ _ ⟨hB.step hF ho hr _,σ,hW,hE,xz hF ho rfl yv _,λ_=>⟨m,n,k1,k2,?_,?_,?_,?_,?_⟩⟩)
 ·rw[jt (by rw[hd];intro e;injection e with e;cases e)];exact k3
 ·exact dW k4 (dW (Nat.le_succ _) (Bh (by decide) hB.Cc OF))
 ·intro _;exact tC hd (by rw[hB.Tv];exact fb (by decide) hF.nt)
 ·intro _;rw[hD];exact k6 S0
 ·intro h;rw[bm (by decide),S0]at h;cases h
def TX(hF:RF P ops nt TM TK TE σ0 W R rj b0 b1 b2 b3 b4 b5 b6 b7)(hI:RI P ops nt TK TE σ0 W R w0 rj ds b0 b1 b2 b3 b4 b5 b6 b7 l a w){o:am}(ho:ops[35]? =some o)(hl:l.getD 35 true=false)
 (hr:∀e∈o.after,Region.binds .any e=true->l.getD e.on false=true){Q:dr->bw->ar->Prop}{K:bw->ar->Prop}
 (hK:∀a' w',RI P ops nt TK TE σ0 W R w0 rj ds b0 b1 b2 b3 b4 b5 b6 b7 (l.setIfInBounds 35 true) a' w'->K a' w'):wpOp P ops Q 35 K a w:=by
 obtain⟨hB,σ,hW,hE,yv,jM⟩:=hI;have hi:35<l.size:=by rw[hB.Cc];decide
 have OF:=pN hl hi;obtain⟨n1,n2,n3⟩:=Xy hF hB;have hs:=hF.shape 35 o ho;simp only[lD,bA,Ew]at hs;obtain⟨⟨hg,hs⟩,hed⟩:=hs;split at hs;case h_2=>cases hs
 rename_i t x d vO hd;simp only[bA,fo]at hs;obtain⟨⟨rfl,rfl⟩,rfl⟩:=hs;have h34:l.getD 34 false=true:=iC hed hr;obtain⟨m,n,k1,k2,k3,k4,k5,k6,k7⟩:=jM (n2 h34 0 (by decide));obtain⟨w',lZ,S8,YH,vS⟩:=(k6 OF).range (Go.Maps.int_keyed hF.TK) hF.TM;have adu:(execOp a.eval o).run P w=.ok (.value (.pointer (some ⟨w.heap.size,0,none⟩))) w':=by have e1:a.eval (.tmp 40)=.map (some m):=k5 h34;simp only[execOp,vO,e1];simp[lZ]
 have aqH:∀x:bg,x.block=w.heap.size->w'.frozen? x=false:=λx e=>by obtain⟨es,nP,since,seen,c0,_,_,_,_,hr,_⟩:=S8;unfold World.frozen?;rw[e,hr]
 have hD:Dl (l.setIfInBounds 35 true) b0 b1 b2 b3 b4 b5 b6 b7=Dl l b0 b1 b2 b3 b4 b5 b6 b7:=by unfold Dl;rw[bm (by decide),bm (by decide),bm (by decide),bm (by decide),bm (by decide),bm (by decide),bm (by decide),bm (by decide)]
 refine xk ho hg adu (hK _ _ ⟨hB.step hF ho hr _,σ,?_,?_,xz hF ho rfl yv _,λ_=>⟨m,n,k1,k2,?_,?_,?_,?_,?_⟩⟩)
 ·exact Fl (m:=w.heap.size) hW (λb g hb=>Nat.ne_of_lt (hW.qP b g hb).2) (YH.but _)
 ·refine Gp (m:=w.heap.size) hE hE.size (YH.but _) λx=>?_
  by_cases h:x.block<w.heap.size
  ·exact World.frozen?_of_block (YH.block _ h (by simp))
  ·rw[sk (w:=w) (by omega)];by_cases e:x.block=w.heap.size
   ·exact aqH x e
   ·exact sk (by omega)
 ·rw[jt (by rw[hd];intro e;injection e with e;cases e)];exact k3
 ·exact dW k4 (dW (Nat.le_succ _) (Bh (by decide) hB.Cc OF))
 ·intro _;rw[jt (by rw[hd];intro e;injection e with e;cases e)];exact k5 h34
 ·intro h;rw[dK hi]at h;cases h
 ·intro _;refine⟨w.heap.size,tC hd (by rw[hB.Tv];exact fb (by decide) hF.nt),λb g hb=>Nat.ne_of_lt (hW.qP b g hb).2,hE.size,?_⟩;rw[hD];exact S8
def Zq(hF:RF P ops nt TM TK TE σ0 W R rj b0 b1 b2 b3 b4 b5 b6 b7)(hB:RB ops nt rj ds l a)(h:Region.ready .any ops l=[]):∀i,i<36->l.getD i false=true:=by
 have key:∀n i,i<n->i<36->l.getD i false=true:=by
  intro n;induction n with
  |zero=>intro i h;exact absurd h (Nat.not_lt_zero _)
  |succ n ih=>
   intro i hi Pl;by_cases mC:i<n
   ·exact ih i mC Pl
   ·have nH:i<ops.size:=by rw[hF.size];exact Pl
    have ho:ops[i]? =some ops[i]:=jN nH;cases hq:l.getD i false with
    |true=>rfl
    |false=>
     exfalso;have hb:=hF.back i _ ho;unfold N6 at hb;have hil:i<l.size:=by rw[hB.Cc];exact Pl
     have:i∈Region.ready .any ops l:=rO.2 ⟨by
      simp only[AB]at hq|-;rw[jN hil]at hq|-;exact hq,_,ho,λe he hbd=>by
      rw[Array.all_eq_true']at hb;have h1:=hb e he;rw[jH]at h1;exact ih e.on (by omega) (by omega)⟩;rw[h]at this;cases this
 exactλi hi=>key (i+1) i (Nat.lt_succ_self i) hi
def aak(hF:RF P ops nt TM TK TE σ0 W R rj b0 b1 b2 b3 b4 b5 b6 b7)(hI:RI P ops nt TK TE σ0 W R w0 rj ds b0 b1 b2 b3 b4 b5 b6 b7 l a w){i:Nat}(hi:i∈Region.ready .any ops l){Q:dr->bw->ar->Prop}{K:bw->ar->Prop}
 (hK:∀a' w',RI P ops nt TK TE σ0 W R w0 rj ds b0 b1 b2 b3 b4 b5 b6 b7 (l.setIfInBounds i true) a' w'->K a' w'):wpOp P ops Q i K a w:=by
 obtain⟨hl,o,ho,hr⟩:=rO.1 hi;have vS:l.size=36:=hI.base.Cc;cases hp:kr i with
 |true=>exact XP hF hI ho hl hr hp hK
 |false=>
  have hs:=hF.shape i o ho;have hc:i=0\/i=4\/i=8\/i=12\/i=16\/i=20\/i=24\/i=29\/i=33\/i=34\/i=35:=by unfold kr at hp;split at hp<;>first|simp|cases hp
  rcases hc with rfl|rfl|rfl|rfl|rfl|rfl|rfl|rfl|rfl|rfl|rfl
  ·exact ZB hF hI ho hl hr hK
  ·exact qo hF hI ho hl hr hs rfl (by decide) (by decide) hF.v0 rfl (by unfold Dl;rw[dK (by omega),bm (show(4:Nat)≠8 by decide),bm (show(4:Nat)≠12 by decide),bm (show(4:Nat)≠16 by decide),bm (show(4:Nat)≠20 by decide),bm (show(4:Nat)≠24 by decide),bm (show(4:Nat)≠29 by decide),bm (show(4:Nat)≠33 by decide)];exact auH ..) hK
  ·exact qo hF hI ho hl hr hs rfl (by decide) (by decide) hF.v1 rfl (by unfold Dl;rw[dK (by omega),bm (show(8:Nat)≠4 by decide),bm (show(8:Nat)≠12 by decide),bm (show(8:Nat)≠16 by decide),bm (show(8:Nat)≠20 by decide),bm (show(8:Nat)≠24 by decide),bm (show(8:Nat)≠29 by decide),bm (show(8:Nat)≠33 by decide)];exact asu ..) hK
  ·exact qo hF hI ho hl hr hs rfl (by decide) (by decide) hF.v2 rfl (by unfold Dl;rw[dK (by omega),bm (show(12:Nat)≠4 by decide),bm (show(12:Nat)≠8 by decide),bm (show(12:Nat)≠16 by decide),bm (show(12:Nat)≠20 by decide),bm (show(12:Nat)≠24 by decide),bm (show(12:Nat)≠29 by decide),bm (show(12:Nat)≠33 by decide)];exact avJ ..) hK
  ·exact qo hF hI ho hl hr hs rfl (by decide) (by decide) hF.v3 rfl (by unfold Dl;rw[dK (by omega),bm (show(16:Nat)≠4 by decide),bm (show(16:Nat)≠8 by decide),bm (show(16:Nat)≠12 by decide),bm (show(16:Nat)≠20 by decide),bm (show(16:Nat)≠24 by decide),bm (show(16:Nat)≠29 by decide),bm (show(16:Nat)≠33 by decide)];exact av0 ..) hK
  ·exact qo hF hI ho hl hr hs rfl (by decide) (by decide) hF.v4 rfl (by unfold Dl;rw[dK (by omega),bm (show(20:Nat)≠4 by decide),bm (show(20:Nat)≠8 by decide),bm (show(20:Nat)≠12 by decide),bm (show(20:Nat)≠16 by decide),bm (show(20:Nat)≠24 by decide),bm (show(20:Nat)≠29 by decide),bm (show(20:Nat)≠33 by decide)];exact avs ..) hK
  ·exact qo hF hI ho hl hr hs rfl (by decide) (by decide) hF.v5 rfl (by unfold Dl;rw[dK (by omega),bm (show(24:Nat)≠4 by decide),bm (show(24:Nat)≠8 by decide),bm (show(24:Nat)≠12 by decide),bm (show(24:Nat)≠16 by decide),bm (show(24:Nat)≠20 by decide),bm (show(24:Nat)≠29 by decide),bm (show(24:Nat)≠33 by decide)];exact auA ..) hK
  ·exact qo hF hI ho hl hr hs rfl (by decide) (by decide) hF.v6 rfl (by unfold Dl;rw[dK (by omega),bm (show(29:Nat)≠4 by decide),bm (show(29:Nat)≠8 by decide),bm (show(29:Nat)≠12 by decide),bm (show(29:Nat)≠16 by decide),bm (show(29:Nat)≠20 by decide),bm (show(29:Nat)≠24 by decide),bm (show(29:Nat)≠33 by decide)];exact awb ..) hK
  ·exact qo hF hI ho hl hr hs rfl (by decide) (by decide) hF.v7 rfl (by unfold Dl;rw[dK (by omega),bm (show(33:Nat)≠4 by decide),bm (show(33:Nat)≠8 by decide),bm (show(33:Nat)≠12 by decide),bm (show(33:Nat)≠16 by decide),bm (show(33:Nat)≠20 by decide),bm (show(33:Nat)≠24 by decide),bm (show(33:Nat)≠29 by decide)];exact at1 ..) hK
  ·exact XF hF hI ho hl hr hK
  ·exact TX hF hI ho hl hr hK
def Kv(b0 b1 b2 b3 b4 b5 b6 b7:Bool):cq Unit:=OU true true true true true true true true b0 b1 b2 b3 b4 b5 b6 b7
structure RQ (P:ah) (nt TK TE:Nat) (σ0:dx) (W:AW) (w0:ar) (rj:Array ad) (ds:List eA) (b0 b1 b2 b3 b4 b5 b6 b7:Bool) (a:bw) (w:ar) (σ:dx) (m r n:Nat):Prop where
 Tv:a.tmps.size=nt
 dfs:a.defers=ds
 yU:∀t,(t<14\/41<t)->a.tmps[t]? =rj[t]?
 it:a.tmps.getD 41 ak=.pointer (some ⟨r,0,none⟩)
 rel:bI σ W w.heap
 ext:fR σ0 W w0 σ W w
 nm:∀b g,σ b=some g->g.B≠m
 nr:∀b g,σ b=some g->g.B≠r
 gm:w0.heap.size<=m
 gr:w0.heap.size<=r
 rg:w.ranges P TK (plainElem P TE) m r n (Kv b0 b1 b2 b3 b4 b5 b6 b7) (Maps.has (Kv b0 b1 b2 b3 b4 b5 b6 b7)) (Maps.size (Kv b0 b1 b2 b3 b4 b5 b6 b7))
def RI.done(hF:RF P ops nt TM TK TE σ0 W R rj b0 b1 b2 b3 b4 b5 b6 b7)(hI:RI P ops nt TK TE σ0 W R w0 rj ds b0 b1 b2 b3 b4 b5 b6 b7 l a w)(h:∀i,i<36->l.getD i false=true):
 ∃σ m r n,RQ P nt TK TE σ0 W w0 rj ds b0 b1 b2 b3 b4 b5 b6 b7 a w σ m r n:=by
 obtain⟨hB,σ,hW,hE,yv,jM⟩:=hI;obtain⟨m,n,k1,k2,k3,k4,k5,k6,k7⟩:=jM (h 0 (by decide));obtain⟨r,p1,p2,p3,p4⟩:=k7 (h 35 (by decide));have hD:Dl l b0 b1 b2 b3 b4 b5 b6 b7=Kv b0 b1 b2 b3 b4 b5 b6 b7:=by unfold Dl Kv;rw[h 4 (by decide),h 8 (by decide),h 12 (by decide),h 16 (by decide),h 20 (by decide),h 24 (by decide),h 29 (by decide),h 33 (by decide)]
 rw[hD]at p4;exact⟨σ,m,r,n,hB.Tv,hB.dfs,hB.yU,p1,hW,hE,k1,p2,k2,p3,p4⟩
def Vq(hF:RF P ops nt TM TK TE σ0 W R rj b0 b1 b2 b3 b4 b5 b6 b7){Q:dr->bw->ar->Prop}(hQ:∀a' w' σ m r n,RQ P nt TK TE σ0 W w0 rj ds b0 b1 b2 b3 b4 b5 b6 b7 a' w' σ m r n->Q .normal a' w'):
 ∀(EI:Nat) (l:Array Bool) (a:bw) (w:ar),RI P ops nt TK TE σ0 W R w0 rj ds b0 b1 b2 b3 b4 b5 b6 b7 l a w->unl 36 l<=EI->wpAny P .any ops Q EI l a w:=by
 intro EI;induction EI with
 |zero=>
  intro l a w hI hu;have yz:∀i,i<36->l.getD i false=true:=λi hi=>by
   have h1:=RN (n:=36) (l:=l) (by omega) hi;have hil:i<l.size:=by rw[hI.base.Cc];exact hi
   simp only[AB]at h1|-;rw[jN hil]at h1|-;exact h1
  refine⟨?_,?_⟩
  ·rw[List.eq_nil_iff_forall_not_mem];intro i hi;obtain⟨h1,o,ho,_⟩:=rO.1 hi;have Pl:i<36:=by rw[<-hF.size];exact(eS.1 ho).1
   have:=yz i Pl;rw[pN h1 (by rw[hI.base.Cc];exact Pl)]at this;cases this
  ·obtain⟨σ,m,r,n,h⟩:=hI.done hF yz;exact hQ _ _ _ _ _ _ h
 |succ EI ih=>
  intro l a w hI hu;refine⟨λhr=>?_,λi hi=>?_⟩
  ·obtain⟨σ,m,r,n,h⟩:=hI.done hF (Zq hF hI.base hr);exact hQ _ _ _ _ _ _ h
  ·refine aak hF hI hi λa' w' Ux=>ih _ a' w' Ux ?_
   obtain⟨h1,o,ho,_⟩:=rO.1 hi;have Pl:i<36:=by rw[<-hF.size];exact(eS.1 ho).1
   have:=IP (l:=l) Pl (by rw[hI.base.Cc];exact Pl) h1;omega
def TW(hm:P.follows .mixedOrders=true){id:Nat}(hF:RF P ops nt TM TK TE σ0 W R a.tmps b0 b1 b2 b3 b4 b5 b6 b7)(hnt:a.tmps.size=nt)(hW:bI σ0 W w.heap){Q:dr->bw->ar->Prop}
 (hQ:∀a' w' σ m r n,RQ P nt TK TE σ0 W w a.tmps a.defers b0 b1 b2 b3 b4 b5 b6 b7 a' w' σ m r n->Q .normal a' w'):(Code.region id ops true).wp P Q a w:=by
 refine wp_region_any hm ?_;have yW:∀i,(Array.replicate ops.size false).getD i false=false:=λi=>by simp only[AB,Array.getElem?_replicate];split<;>rfl
 refine Vq (w0:=w) (rj:=a.tmps) (ds:=a.defers) hF hQ _ _ _ _ ⟨⟨by simp[hF.size],hnt,rfl,?_,λ_ _=>rfl⟩,σ0,hW,.drawn _ _ _ _,?_,?_⟩ ?_
 ·intro i hi;rw[yW]at hi;cases hi
 ·intro i o d _ _ hl;rw[yW]at hl;cases hl
 ·intro hl;rw[yW]at hl;cases hl
 ·unfold unl;have:=List.countP_le_length (p:=λi=> !(Array.replicate ops.size false).getD i true) (l:=List.range 36);rw[hF.size]at this|-;simpa using this
end
end
end Go.Eng
namespace Go.Eng
open Go Go.RowKit
section
variable [ai]
structure eG (w w':ar):Prop where
 os:w'.os=w.os
 tape:w'.tape=w.tape
 output:w'.output=w.output
 size:w.heap.size<=w'.heap.size
 block:∀B,B<w.heap.size->w'.heap[B]? =w.heap[B]?
def eG.grown{w w':ar}(h:eG w w'):T7 w w':=by
 refine⟨⟨h.os,h.output,λi hi=>?_⟩,λa ha=>SQ (h.block _ ha),h.size⟩;rw[h.block i hi];cases w.heap[i]? with
 |none=>rfl
 |some o=>cases o<;>first|rfl|exact⟨rfl,rfl,rfl,λ_ _=>rfl⟩|exact .inr ⟨rfl,rfl⟩
def eG.cell{w w':ar}(h:eG w w'){a:bg}{v:ad}(hc:w.cell? a=some v):w'.cell? a=some v:=by
 have mC:a.block<w.heap.size:=by
  rcases qf a.block w.heap.size with h'|h'
  ·exact h'
  ·unfold World.cell? at hc;rw[AG h']at hc;simp at hc
 rw[World.cell?_of_block (h.block _ mC)];exact hc
def eG.rel{w w':ar}(h:eG w w'){σ:dx}{W:AW}(hW:bI σ W w.heap):bI σ W w'.heap where
 free:=hW.free
 qP b g hb:=⟨(hW.qP b g hb).1,fb (hW.qP b g hb).2 h.size⟩
 obj b o g hb hσ:=(hW.obj b o g hb hσ).same (h.block _ (hW.qP b g hσ).2)
 vN:=hW.vN
def eG.ext{w w':ar}(h:eG w w')(σ:dx)(W:AW):fR σ W w σ W w':=
 ⟨.refl _,λ_ _ h=>h,h.size,h.os,h.tape,h.output,λB hB _=>h.block B hB,λ_ _ a b=>⟨a,b⟩,λ_ _ a _=>.inl a⟩
def eG.other{w w' w'':ar}(h:eG w w'){r:Nat}(hr:w.heap.size<=r)(hg:w'.grownBy w'' (some r))(vS:w''.heap.size=w'.heap.size)
 (h1:∀a:bg,a.block=r->w'.frozen? a=false)(h2:∀a:bg,a.block=r->w''.frozen? a=false):eG w w'':=by
 refine⟨hg.os.trans h.os,hg.tape.trans h.tape,hg.output.trans h.output,dW h.size hg.size,λB hB=>(hg.block B (fb hB h.size) (λe=>by injection e with e;omega)).trans (h.block B hB)⟩
def Q6{H:Type}{P:ah}{k:ag}{w:ar}{Re:ad->Option (cq H×List eB)}{b r n CA:Nat}{D:cq H}{left:Lit->Bool}(h:w.ranges P k Re b r n D left CA){a:bg}(ha:a.block=r):w.frozen? a=false:=by obtain⟨es,nP,since,seen,c0,_,_,_,_,hr,_⟩:=h;unfold World.frozen?;rw[ha,hr]
def J7(B n:Nat):dx:=λb=>if b=0 then some ⟨B,0,n⟩else none
def En(cs:List ad):AW:=⟨T.set (some (.cells cs)) (path 0) .lf,1⟩
def asH:ai.Fr:=SM ai.blank 1 (.pointer (some ⟨0,0,none⟩))
def Nh{cs:List ad}{b:Nat}(e:b≠0):(En cs).get b=none:=by show T.get (path b) (T.set (some (dH.cells cs)) (path 0) .lf)=_;exact(T.iE _ _ _ _ (AL (bh e))).trans (T.E3 _)
def Ld(cs:List ad){b:Nat}{o:dH}(h:(En cs).get b=some o):b=0/\o=.cells cs:=by
 by_cases e:b=0
 ·subst e;have:(En cs).get 0=some (.cells cs):=by show T.get (path 0) (T.set (some (dH.cells cs)) (path 0) .lf)=_;exact T.oQ _ _ _
  rw[this]at h;injection h with h;exact⟨rfl,h.symm⟩
 ·have:(En cs).get b=none:=Nh e;rw[this]at h;cases h
def ahh(w:ar)(t:ag)(cs:List ad)(hp:cs.all bN=true):bI (J7 w.heap.size cs.length) (En cs) (w.alloc (.cells cs.toArray t)).heap where
 free b hb:=Nh (by have h1:1<=b:=hb;intro e;subst e;exact absurd h1 (by decide))
 qP b g hb:=by
  unfold J7 at hb;split at hb
  ·rename_i e;subst e;injection hb with hb;subst hb;exact⟨Nat.lt_succ_self 0,by simp⟩
  ·cases hb
 obj b o g hb hg:=by obtain⟨rfl,rfl⟩:=Ld cs hb;injection hg with hg;subst hg;refine⟨cs.toArray,t,(0,0),(MapKept.heap_alloc w _).1,λ_=>rfl,by simp,by simp,λi v hv=>⟨v,by simpa using hv,?_⟩⟩;exact jJ (dd.1 hp v (za hv))
 vN b1 b2 o1 o2 g1 g2 fe h1 h2 _ _ _:=absurd ((Ld cs h1).1.trans (Ld cs h2).1.symm) fe
def YT{w w2:ar}{t:ag}{cs:List ad}{n:Nat}{σ:dx}(h:fR (J7 w.heap.size n) (En cs) (w.alloc (.cells cs.toArray t)) σ (En cs) w2):eG w w2:=by
 have vS:(w.alloc (.cells cs.toArray t)).heap.size=w.heap.size+1:=by simp
 refine⟨h.os,h.tape,h.output,by have:=h.size;omega,λB hB=>?_⟩
 ·rw[h.keep B (by omega) ?_]
  ·exact(EK w _ none).block B hB (by simp)
  ·rintro⟨b,g,hb,hg,_⟩;unfold J7 at hb;split at hb
   ·injection hb with hb;subst hb;simp only at hg;omega
   ·cases hb
def agC:List Nat:=(List.range 36).filter kr
def WC(P:ah)(ops:Array am)(W:AW):List Nat->ai.Fr->ai.Fr
 |[],R=>R
 |i::l,R=>match ops[i]? with
  |some o=>(match LQ P o R W with
   |some (v,_)=>WC P ops W l (iJ R o.dst v)
   |none=>R)
  |none=>R
def aeO{ops:Array am}{TM:Nat}(h:Py ops TM=true):ops.size=36/\∀i o,ops[i]? =some o->lD ops TM i o=true/\N6 i o=true:=by unfold Py at h;rw[bA,fo,dd]at h;refine⟨h.1,λi o ho=>?_⟩;have:=h.2 i (by have:=(eS.1 ho).1;simp;omega);rw[ho]at this;simpa using this
section
variable {P:ah}
def rP{d:Nat}{xs ys:Array ad}{f:wx}{fs:List wx}{k:be}{a b:Int}{r:Bool}{w:ar}(hn:f.name≠ "_")(hk:P.plainKey f.type=true)(hu:P.underlying f.type=some (.int k))
 (hx:xs[f.offset]? =some (.int k a))(hy:ys[f.offset]? =some (.int k b))(hr:(Op.eqFields (d+1) xs ys fs).run P w=.ok r w):(Op.eqFields (d+1) xs ys (f::fs)).run P w=.ok ((a==b)&&r) w:=by
 unfold Op.eqFields;rw[an hn,cQ,run_part_plain w hk hx,cK,cQ,run_part_plain w hk hy,cK,cQ,run_equalIn_int _ _ _ _ _ _ _ hu,cK];cases a==b
 ·simp
 ·simpa using hr
def aew{t:ag}{x y:au}{f0 f1 f2 f3:wx}{k0 k1 k2 k3:be}{a b c d:Int}(hs:P.underlying t=some (.struct (P.fieldsOf t)))(hp:P.stoodInHeld t=false)(hm:P.eqGuardType P.depth t=false)
 (hf:(P.fieldsOf t).toList=[f0,f1,f2,f3])(n0:f0.name≠ "_")(n1:f1.name≠ "_")(n2:f2.name≠ "_")(n3:f3.name≠ "_")(p0:P.plainKey f0.type=true)(p1:P.plainKey f1.type=true)(p2:P.plainKey f2.type=true)(p3:P.plainKey f3.type=true)
 (u0:P.underlying f0.type=some (.int k0))(u1:P.underlying f1.type=some (.int k1))(u2:P.underlying f2.type=some (.int k2))(u3:P.underlying f3.type=some (.int k3))(o0:f0.offset=0)(o1:f1.offset=1)(o2:f2.offset=2)(o3:f3.offset=3)(w:ar):
 (do eqGuard .neq t x y (.agg #[.int k0 a,.int k1 b,.int k2 c,.int k3 d]) (.agg #[.int k0 0,.int k1 0,.int k2 0,.int k3 0]);binOp .neq t (.agg #[.int k0 a,.int k1 b,.int k2 c,.int k3 d]) (.agg #[.int k0 0,.int k1 0,.int k2 0,.int k3 0]):Sem ad).run P w=
  .ok (.bool (!((a==0)&&((b==0)&&((c==0)&&((d==0)&&true)))))) w:=by
 have h9:∀xs ys:Array ad,(Op.equalIn 10000 t (.agg xs) (.agg ys)).run P w=(Op.eqFields 9999 xs ys (P.fieldsOf t).toList).run P w:=λxs ys=>run_equalIn_struct w 9999 t xs ys hs hp
 have h3:=rP (P:=P) (d:=9998) (xs:=#[.int k0 a,.int k1 b,.int k2 c,.int k3 d]) (ys:=#[.int k0 0,.int k1 0,.int k2 0,.int k3 0]) (fs:=[]) (r:=true) (w:=w) n3 p3 u3 (by rw[o3];rfl) (by rw[o3];rfl) (by simp[Op.eqFields]);have h2:=rP n2 p2 u2 (by rw[o2];rfl) (by rw[o2];rfl) h3;have h1:=rP n1 p1 u1 (by rw[o1];rfl) (by rw[o1];rfl) h2;have h0:=rP n0 p0 u0 (by rw[o0];rfl) (by rw[o0];rfl) h1;have h0':(Op.eqFields 9999 #[.int k0 a,.int k1 b,.int k2 c,.int k3 d] #[.int k0 0,.int k1 0,.int k2 0,.int k3 0] [f0,f1,f2,f3]).run P w=_:=h0;rw[cQ,run_eqGuard_agg _ _ _ _ _ _ _ hm,cK,run_neq_struct,h9,hf,h0',cK]
end
def Wp:List Nat:=agC.filter λi=> !Nat.beq i 28
def Tp(P:ah)(ops:Array am)(cs:List ad)(b6:Bool):ai.Fr:=SM (WC P ops (En cs) Wp asH) 36 (.bool b6)
def apb(TT:Nat)(o:am):Bool:=match o.op,o.dst with|.binOp .neq t (.tmp x) (.tmp y) _,some d=>Nat.beq t TT&&Nat.beq x 34&&Nat.beq y 35&&Nat.beq d 36|_,_=>false
def QC{P:ah}(hm:P.follows .mixedOrders=true){id nt TM TK TE TT B:Nat}{ops:Array am}{cs:List ad}{a:bw}{w:ar}{b0 b1 b2 b3 b4 b5 b6 b7:Bool}{Q:dr->bw->ar->Prop}{tk zk:Array ad}
 (h1:Py ops TM=true)
 (h2:(Wp.map λi=>(ops[i]?).bind λo=>LQ P o (Tp P ops cs b6) (En cs))=Wp.map λi=>(ops[i]?).bind λo=>o.dst.map λd=>(du (Tp P ops cs b6) d,En cs))
 (v0:du (Tp P ops cs b6) 17=.bool b0)(v1:du (Tp P ops cs b6) 20=.bool b1)(v2:du (Tp P ops cs b6) 23=.bool b2)(v3:du (Tp P ops cs b6) 26=.bool b3)
 (v4:du (Tp P ops cs b6) 29=.bool b4)(v5:du (Tp P ops cs b6) 32=.bool b5)(v7:du (Tp P ops cs b6) 39=.bool b7)
 (c1:du (Tp P ops cs b6) 34=.agg tk)(c2:du (Tp P ops cs b6) 35=.agg zk)(c3:bN (.agg tk)=true)(c4:bN (.agg zk)=true)(c5:(ops[28]?).any (apb TT)=true)
 (c6:∀w,(do eqGuard .neq TT (.tmp 34) (.tmp 35) (.agg tk) (.agg zk);binOp .neq TT (.agg tk) (.agg zk):Sem ad).run P w=.ok (.bool b6) w)
 (h3:du (Tp P ops cs b6) 1=.pointer (some ⟨0,0,none⟩))(h4:a.tmps.getD 1 ak=.pointer (some ⟨B,0,none⟩))(h5:42<=nt)(h6:a.tmps.size=nt)
 (tM:P.underlying TM=some (.map TK TE))(tK:P.underlying TK=some (.int .i64))(tE:P.underlying TE=some .bool){n:Nat}(hW:bI (J7 B n) (En cs) w.heap)
 (hQ:∀a' w' σ m r k,RQ P nt TK TE (J7 B n) (En cs) w a.tmps a.defers b0 b1 b2 b3 b4 b5 b6 b7 a' w' σ m r k->Q .normal a' w'):(Code.region id ops true).wp P Q a w:=by
 obtain⟨vS,hsh⟩:=aeO h1;have v6:du (Tp P ops cs b6) 36=.bool b6:=Bf _ _ _;refine TW (nt:=nt) (TM:=TM) (TK:=TK) (TE:=TE) (R:=Tp P ops cs b6) hm ⟨vS,λi o ho=>(hsh i o ho).1,λi o ho=>(hsh i o ho).2,?_,v0,v1,v2,v3,v4,v5,v6,v7,?_,h5,tM,tK,tE⟩ h6 hW hQ
 ·intro i o d ho hp hd σ w ρ hW hρ;by_cases h32:i=28
  ·subst h32;rw[ho]at c5;simp only[Option.any_some]at c5;unfold apb at c5;split at c5;case h_2=>cases c5
   rename_i t x y dt d' vO ke;simp only[bA,fo]at c5;obtain⟨⟨⟨rfl,rfl⟩,rfl⟩,rfl⟩:=c5;rw[hd]at ke;injection ke with ke;subst ke;rw[v6];have e1:ρ (.tmp 34)=.agg tk:=by have:=hρ (.tmp 34) (by rw[vO];simp[Op.operands]);rw[show aE (Tp P ops cs b6) (.tmp 34)=.agg tk from c1]at this;exact gH c3 this
   have e2:ρ (.tmp 35)=.agg zk:=by have:=hρ (.tmp 35) (by rw[vO];simp[Op.operands]);rw[show aE (Tp P ops cs b6) (.tmp 35)=.agg zk from c2]at this;exact gH c4 this
   refine lC.value (s:=do eqGuard .neq t (.tmp 34) (.tmp 35) (.agg tk) (.agg zk);binOp .neq t (.agg tk) (.agg zk)) ?_ hW (c6 w) (.bool b6);simp only[execOp,vO,e1,e2]
  ·have hi:i∈Wp:=tF.2 ⟨tF.2 ⟨by have:=(eS.1 ho).1;simp;omega,hp⟩,by cases hb:Nat.beq i 28 with|false=>rfl|true=>exact absurd (A5 hb) h32⟩;have:=List.map_inj_left.1 h2 i hi;exact WF hW (by simpa[ho,hd]using this) hρ
 ·rw[h3,h4];exact VR.ptr (σ:=J7 B n) ⟨0,0,none⟩ ⟨B,0,n⟩ rfl rfl
def ajZ{tm rj:Array ad}{it:ad}(h:tm.size=58)(h0:rj.size=58)(yU:∀t,(t<14\/41<t)->tm[t]? =rj[t]?)(hit:tm.getD 41 ak=it):
 ∃xs:List ad,xs.length=27/\tm=(rj.toList.take 14++(xs++(it::rj.toList.drop 42))).toArray:=by
 have hl:tm.toList.length=58:=by simpa using h
 have SE:rj.toList.length=58:=by simpa using h0
 refine⟨(tm.toList.drop 14).take 27,by simp[hl],?_⟩;apply Array.ext';apply oi;intro i;simp only[];by_cases h1:i<14
 ·rw[IN (by simp[SE];omega),List.getElem?_take_of_lt h1];have:=yU i (.inl h1);simpa using this
 ·rw[sU (by simp[SE];omega)];have e14:(rj.toList.take 14).length=14:=by simp[SE]
  rw[e14];by_cases h2:i<41
  ·rw[IN (by simp[hl];omega),List.getElem?_take_of_lt (by omega),qZ];congr 1;omega
  ·rw[sU (by simp[hl];omega)];have e27:((tm.toList.drop 14).take 27).length=27:=by simp[hl]
   rw[e27];by_cases h3:i=41
   ·subst h3;have:tm[41]? =some it:=by rw[<-hit];simp[jN (show 41<tm.size by omega)]
    simpa using this
   ·obtain⟨j,rfl⟩:∃j,i=j+42:=⟨i-42,by omega⟩;have e:j+42-14-27=j+1:=by omega
    rw[e,Ef,qZ];have:=yU (j+42) (.inr (by omega));have e2:42+j=j+42:=by omega
    rw[e2];simpa using this
def jY{H:Type}{P:ah}{e:ag}(he:P.underlying e=some .bool){v:ad}{y:cq H×List eB}(h:plainElem P e v=some y):∃c,v=.bool c:=by unfold plainElem at h;rw[he]at h;cases v<;>simp at h;exact⟨_,rfl⟩
def abk{σ:dx}{cs:List ad}{w':ar}{B n:Nat}(h:bI σ (En cs) w'.heap)(hσ:σ 0=some ⟨B,0,n⟩){i:Nat}{v:ad}(hv:cs[i]? =some v)(hp:bN v=true):w'.cell? ⟨B,i,none⟩=some v:=by
 have hg:(En cs).get 0=some (.cells cs):=by show T.get (path 0) (T.set (some (dH.cells cs)) (path 0) .lf)=_;exact T.oQ _ _ _
 obtain⟨c,t,fr,h1,_,_,_,h4⟩:=h.obj 0 _ _ hg hσ;obtain⟨v',h5,h6⟩:=h4 i v hv;rw[gH hp h6]at h5;simp only[aI]at h5;simp[World.cell?,h1,h5]
def EC(g0 g1 g2 g3 g4 g5 g6 g7:Bool):Int:=(cond g0 1 0+(cond g1 2 0+(cond g2 4 0+(cond g3 8 0+(cond g4 16 0+(cond g5 32 0+(cond g6 64 0+cond g7 128 0)))))):Nat)
structure asw (P:ah) (TK TE m r n:Nat) (D:cq Unit) (left:Lit->Bool) (CA:Nat) (w:ar) where
 x:Int
 c:Bool
 w1:ar
 UZ:Nat
 hl:left (.ae x)=true
 vL:∀zd,D.atKey (.ae x) zd=.lit (.bool c)
 S8:w1.ranges P TK (plainElem P TE) m r n D (λz=>left z&& !z.sameKey (.ae x)) UZ
 mC:UZ<CA
 YH:w.grownBy w1 (some r)
 vS:w1.heap.size=w.heap.size
 hen:(Instr.entry (.pointer (some ⟨r,0,none⟩))).run P w1=.ok (.tuple #[.ae x,.bool c]) w1
def Gl{P:ah}{ops:Array am}{ks:List am}{o:am}{a:bw}{w:ar}{Q:dr->bw->ar->Prop}(hg:o.guard=none)(it:au)(vO:o.op=Op.next it false){TK TE m r n:Nat}{D:cq Unit}{left:Lit->Bool}{CA:Nat}
 (hk:P.underlying TK=some (.int .i64))(he:P.underlying TE=some .bool)(hit:a.eval it=.pointer (some ⟨r,0,none⟩))(h:w.ranges P TK (plainElem P TE) m r n D left CA)
 (an2:(∀kl,left kl=false)->wpList P ops Q ks (a.put o.dst (.tuple #[.bool false])) w)
 (anT:∀z:asw P TK TE m r n D left CA w,wpList P ops Q ks (a.put o.dst (.tuple #[.bool true,.ae z.x,.bool z.c])) z.w1):wpList P ops Q (o::ks) a w:=
 wpList_next_ranges (α:=Int) (β:=Bool) w hg it vO TK (Go.Maps.int_keyed hk) (plainElem P TE) (Value.int .i64) Value.bool (λkey kl RT=>by obtain⟨x,rfl,_⟩:=Go.Maps.keyOf_int_inv hk RT;exact⟨x,rfl⟩) (λv y hv=>jY he hv) m r n D left CA hit h (λ_=>an2)
  (λx c kl y w1 UZ RT hlk hy vL S8 mC YH vS hen=>by obtain⟨x',ex,rfl,_⟩:=Go.Maps.keyOf_int_inv hk RT;cases ex;rw[plainElem_bool he]at hy;injection hy with hy;subst hy;exact anT ⟨x,c,w1,UZ,hlk,vL,S8,mC,YH,vS,hen⟩)
def ac8{b0 b1 b2 b3 b4 b5 b6 b7 c:Bool}{x:Int}(h:Maps.has (Kv b0 b1 b2 b3 b4 b5 b6 b7) (.ae x)=true)(vL:∀zd,(Kv b0 b1 b2 b3 b4 b5 b6 b7).atKey (.ae x) zd=.lit (.bool c)):
 (x=1/\c=b0)\/(x=2/\c=b1)\/(x=4/\c=b2)\/(x=8/\c=b3)\/(x=16/\c=b4)\/(x=32/\c=b5)\/(x=64/\c=b6)\/(x=128/\c=b7):=by
 have hx:x=1\/x=2\/x=4\/x=8\/x=16\/x=32\/x=64\/x=128:=by simp only[Maps.has,Kv,OU,ent,pb,jG,List.any_cons,List.any_nil,Bool.or_false,pd]at h;rcases h with h|h|h|h|h|h|h|h<;>(have:=WideAt.sameKey_eq h;injection this with _ this;simp_all)
 rcases hx with rfl|rfl|rfl|rfl|rfl|rfl|rfl|rfl
 ·have:(DataW.lit (.bool b0):cq Unit)=.lit (.bool c):=vL .nil;injection this with this;injection this with this;simp[this]
 ·have:(DataW.lit (.bool b1):cq Unit)=.lit (.bool c):=vL .nil;injection this with this;injection this with this;simp[this]
 ·have:(DataW.lit (.bool b2):cq Unit)=.lit (.bool c):=vL .nil;injection this with this;injection this with this;simp[this]
 ·have:(DataW.lit (.bool b3):cq Unit)=.lit (.bool c):=vL .nil;injection this with this;injection this with this;simp[this]
 ·have:(DataW.lit (.bool b4):cq Unit)=.lit (.bool c):=vL .nil;injection this with this;injection this with this;simp[this]
 ·have:(DataW.lit (.bool b5):cq Unit)=.lit (.bool c):=vL .nil;injection this with this;injection this with this;simp[this]
 ·have:(DataW.lit (.bool b6):cq Unit)=.lit (.bool c):=vL .nil;injection this with this;injection this with this;simp[this]
 ·have:(DataW.lit (.bool b7):cq Unit)=.lit (.bool c):=vL .nil;injection this with this;injection this with this;simp[this]
def or0:∀g1 g2 g3 g4 g5 g6 g7:Bool,bits .or .i64 (EC false g1 g2 g3 g4 g5 g6 g7) 1=EC true g1 g2 g3 g4 g5 g6 g7:=by decide+kernel
def or1:∀g0 g2 g3 g4 g5 g6 g7:Bool,bits .or .i64 (EC g0 false g2 g3 g4 g5 g6 g7) 2=EC g0 true g2 g3 g4 g5 g6 g7:=by decide+kernel
def or2:∀g0 g1 g3 g4 g5 g6 g7:Bool,bits .or .i64 (EC g0 g1 false g3 g4 g5 g6 g7) 4=EC g0 g1 true g3 g4 g5 g6 g7:=by decide+kernel
def or3:∀g0 g1 g2 g4 g5 g6 g7:Bool,bits .or .i64 (EC g0 g1 g2 false g4 g5 g6 g7) 8=EC g0 g1 g2 true g4 g5 g6 g7:=by decide+kernel
def or4:∀g0 g1 g2 g3 g5 g6 g7:Bool,bits .or .i64 (EC g0 g1 g2 g3 false g5 g6 g7) 16=EC g0 g1 g2 g3 true g5 g6 g7:=by decide+kernel
def or5:∀g0 g1 g2 g3 g4 g6 g7:Bool,bits .or .i64 (EC g0 g1 g2 g3 g4 false g6 g7) 32=EC g0 g1 g2 g3 g4 true g6 g7:=by decide+kernel
def or6:∀g0 g1 g2 g3 g4 g5 g7:Bool,bits .or .i64 (EC g0 g1 g2 g3 g4 g5 false g7) 64=EC g0 g1 g2 g3 g4 g5 true g7:=by decide+kernel
def or7:∀g0 g1 g2 g3 g4 g5 g6:Bool,bits .or .i64 (EC g0 g1 g2 g3 g4 g5 g6 false) 128=EC g0 g1 g2 g3 g4 g5 g6 true:=by decide+kernel
def adZ{left:Lit->Bool}{x:Int}{c:Bool}{b0 b1 b2 b3 b4 b5 b6 b7:Bool}(hl:left (.ae x)=true)
 (h8:(x=1/\c=b0)\/(x=2/\c=b1)\/(x=4/\c=b2)\/(x=8/\c=b3)\/(x=16/\c=b4)\/(x=32/\c=b5)\/(x=64/\c=b6)\/(x=128/\c=b7)):
 (c=false->EC (!left (.ae 1)&&b0) (!left (.ae 2)&&b1) (!left (.ae 4)&&b2) (!left (.ae 8)&&b3) (!left (.ae 16)&&b4) (!left (.ae 32)&&b5) (!left (.ae 64)&&b6) (!left (.ae 128)&&b7)=EC (!(λz=>left z&& !z.sameKey (.ae x)) (.ae 1)&&b0) (!(λz=>left z&& !z.sameKey (.ae x)) (.ae 2)&&b1) (!(λz=>left z&& !z.sameKey (.ae x)) (.ae 4)&&b2) (!(λz=>left z&& !z.sameKey (.ae x)) (.ae 8)&&b3) (!(λz=>left z&& !z.sameKey (.ae x)) (.ae 16)&&b4) (!(λz=>left z&& !z.sameKey (.ae x)) (.ae 32)&&b5) (!(λz=>left z&& !z.sameKey (.ae x)) (.ae 64)&&b6) (!(λz=>left z&& !z.sameKey (.ae x)) (.ae 128)&&b7))/\
 (c=true->bits .or .i64 (EC (!left (.ae 1)&&b0) (!left (.ae 2)&&b1) (!left (.ae 4)&&b2) (!left (.ae 8)&&b3) (!left (.ae 16)&&b4) (!left (.ae 32)&&b5) (!left (.ae 64)&&b6) (!left (.ae 128)&&b7)) x=EC (!(λz=>left z&& !z.sameKey (.ae x)) (.ae 1)&&b0) (!(λz=>left z&& !z.sameKey (.ae x)) (.ae 2)&&b1) (!(λz=>left z&& !z.sameKey (.ae x)) (.ae 4)&&b2) (!(λz=>left z&& !z.sameKey (.ae x)) (.ae 8)&&b3) (!(λz=>left z&& !z.sameKey (.ae x)) (.ae 16)&&b4) (!(λz=>left z&& !z.sameKey (.ae x)) (.ae 32)&&b5) (!(λz=>left z&& !z.sameKey (.ae x)) (.ae 64)&&b6) (!(λz=>left z&& !z.sameKey (.ae x)) (.ae 128)&&b7)):=by
 have e:∀a b:Int,(Lit.int .i64 a).sameKey (.ae b)=decide (a=b):=by intro a b;simp[Lit.sameKey]
 rcases h8 with⟨rfl,rfl⟩|⟨rfl,rfl⟩|⟨rfl,rfl⟩|⟨rfl,rfl⟩|⟨rfl,rfl⟩|⟨rfl,rfl⟩|⟨rfl,rfl⟩|⟨rfl,rfl⟩
 ·exact⟨λhc=>by simp[e,hl,hc],λhc=>by simp[e,hl,hc,or0]⟩
 ·exact⟨λhc=>by simp[e,hl,hc],λhc=>by simp[e,hl,hc,or1]⟩
 ·exact⟨λhc=>by simp[e,hl,hc],λhc=>by simp[e,hl,hc,or2]⟩
 ·exact⟨λhc=>by simp[e,hl,hc],λhc=>by simp[e,hl,hc,or3]⟩
 ·exact⟨λhc=>by simp[e,hl,hc],λhc=>by simp[e,hl,hc,or4]⟩
 ·exact⟨λhc=>by simp[e,hl,hc],λhc=>by simp[e,hl,hc,or5]⟩
 ·exact⟨λhc=>by simp[e,hl,hc],λhc=>by simp[e,hl,hc,or6]⟩
 ·exact⟨λhc=>by simp[e,hl,hc],λhc=>by simp[e,hl,hc,or7]⟩
def B2{H:Type}{P:ah}{k:ag}{w:ar}{Re:ad->Option (cq H×List eB)}{b r n CA:Nat}{D:cq H}{left:Lit->Bool}(h:w.ranges P k Re b r n D left CA):∀a:bg,a.block=r->w.frozen? a=false:=λa ha=>Q6 h ha
def Mb(b0 b1 b2 b3 b4 b5 b6 b7:Bool)(u:Int):Int:=if bits .andNot .i64 (EC b0 b1 b2 b3 b4 b5 b6 b7) u=0 then 0 else 2
def X6{H:Type}{P:ah}{k:ag}{w:ar}{Re:ad->Option (cq H×List eB)}{b r n CA:Nat}{D:cq H}{left:Lit->Bool}(h:w.ranges P k Re b r n D left CA):r<w.heap.size:=by obtain⟨es,nP,since,seen,c0,_,_,_,_,hr,_⟩:=h;exact(eS.1 hr).1
end
section
variable [ai]
def iX(k ow un se sc n to t1 t2 t3 t4 nw:Int):Array ad:=#[.ae k,.int .u32 ow,.ae un,.ae se,.ae sc,.ae n,.int .u32 to,.int .u32 t1,.int .u32 t2,.int .u64 t3,.int .u64 t4,.ae nw]
def Qs(ow un se sc n to t1 t2 t3 t4 nw u:Int):Int:=
 Mb (!decide (ow=0)) (!decide (un=0)) (!decide (se=0)) (!decide (sc=0)) (!decide (n=0)) (!decide (to=0)) (!((t1==0)&&((t2==0)&&((t3==0)&&((t4==0)&&true))))) (!decide (nw=0)) u
def OY(c:List ad)(W:AW):Option ad:=
 match c with
 |[.int .i64 k,.int .u32 ow,.int .i64 un,.int .i64 se,.int .i64 sc,.int .i64 n,.int .u32 to,.int .u32 t1,.int .u32 t2,.int .u64 t3,.int .u64 t4,.int .i64 nw]=>
  (match decide (k<1)||decide (12<k)with
  |true=>some (.ae 2)
  |false=>match W.get 0 with
   |some (.ro us)=>(match us[k.toNat]? with
    |some (.int .i64 u)=>some (.ae (Qs ow un se sc n to t1 t2 t3 t4 nw u))
    |_=>none)
   |_=>none)
 |_=>none
def chk(F:Nat):Callee:=λf args W=>match f with
 |.func (.func g) fs cs=>(match Nat.beq g F&&(fs.isEmpty&&cs.isEmpty)with
  |true=>(match args with
   |[.agg c]=>(match OY c.toList W with
    |some v=>some (v,W)
    |none=>none)
   |_=>none)
  |false=>none)
 |_=>none
def eG.box(w:ar)(cs:Array ad)(t:ag):eG w (w.alloc (.cells cs t)):=by exact⟨rfl,rfl,rfl,by simp,λB hB=>(EK w _ none).block B hB (by simp)⟩
def adj{P:ah}{ng:List Nat}(h0:0∈ng){F:Nat}{fn:iv}{body:bV}(Mn:P.funcs[F]? =some fn)(qC:(fn.name== "runtime.NumGoroutine")=false)(hb:fn.body=some body)
 (nH:∀(k ow un se sc n to t1 t2 t3 t4 nw u:Int) (w:ar),¬k<1->¬12<k->w.cell? ⟨0,k.toNat,none⟩=some (.ae u)->
   Calls P F #[.agg (iX k ow un se sc n to t1 t2 t3 t4 nw)] w λe w'=>e=.returned (.ae (Qs ow un se sc n to t1 t2 t3 t4 nw u))/\eG w w')
 (E6:∀(k ow un se sc n to t1 t2 t3 t4 nw:Int) (w:ar),(k<1\/12<k)->
   Calls P F #[.agg (iX k ow un se sc n to t1 t2 t3 t4 nw)] w λe w'=>e=.returned (.ae 2)/\eG w w'):cl P ng (chk F):=by
 intro f args W v W' h σ w f' cZ hW hG hf db;unfold chk at h;split at h;case h_2=>cases h
 rename_i g fs cs;split at h;case h_2=>cases h
 rename_i QQ;simp only[bA,fo,Bq]at QQ;obtain⟨rfl,rfl,rfl⟩:=QQ;split at h;case h_2=>cases h
 rename_i c;split at h;case h_2=>cases h
 rename_i v1 Xi;injection h with h;injection h with h1 h2;subst h1;subst h2;obtain⟨LO,yj,cU,E1,HP,nT,rfl⟩:=hf.mR;cases E1;obtain rfl:yj=#[]:=by have h1:yj.toList.length=0:=HP.1.symm;exact vt.1 (mi.1 h1)
 obtain rfl:cU=#[]:=by have h1:cU.toList.length=0:=nT.1.symm;exact vt.1 (mi.1 h1)
 obtain⟨a0,rfl⟩:∃a0,cZ=[a0]:=by
  have:=db.1;match cZ,this with
  |[a0],_=>exact⟨a0,rfl⟩
 unfold OY at Xi;split at Xi;case h_2=>cases Xi
 rename_i k ow un se sc n to t1 t2 t3 t4 nw hc;have yT:c=iX k ow un se sc n to t1 t2 t3 t4 nw:=by apply Array.ext';rw[hc];rfl
 subst yT;have ha:a0=.agg (iX k ow un se sc n to t1 t2 t3 t4 nw):=gH (v:=.agg (iX k ow un se sc n to t1 t2 t3 t4 nw)) rfl (db.2 0 _ _ rfl rfl);subst ha;have mf:∀z:Int,(Calls P g #[.agg (iX k ow un se sc n to t1 t2 t3 t4 nw)] w λe w'=>e=.returned (.ae z)/\eG w w')->
  B0 P (.func (.func g) #[] #[]) [.agg (iX k ow un se sc n to t1 t2 t3 t4 nw)] w (λv' w'=>∃σ',VR σ' (.ae z) v'/\bI σ' W w'.heap/\fR σ W w σ' W w'):=by
  intro z hz;refine⟨fk Mn qC hb _ w,?_⟩;refine pf (show CallsIn Fence.wide 0 P g _ w _ from(uj (n:=0)).2 hz) ?_;rintro e w' ⟨rfl,hq⟩;exact⟨_,rfl,σ,.int _ _,hq.rel hW,hq.ext σ W⟩
 split at Xi
 ·rename_i hk;injection Xi with Xi;subst Xi;exact mf _ (E6 _ _ _ _ _ _ _ _ _ _ _ _ w (by simpa using hk))
 ·rename_i hk;simp only[Bool.or_eq_false_iff,decide_eq_false_iff_not]at hk;split at Xi;case h_2=>cases Xi
  rename_i us hus;split at Xi;case h_2=>cases Xi
  rename_i u hu;injection Xi with Xi;subst Xi;obtain⟨e,he⟩:=hG 0 h0;obtain⟨cc,t,fr,k1,_,k3⟩:=hW.obj 0 _ _ hus he;have WK:w.cell? ⟨0,k.toNat,none⟩=some (.ae u):=by obtain⟨v',this,hv'⟩:=k3 _ _ hu;obtain rfl:=hv'.uS;simp only[aI]at this;simp[World.cell?,k1,this]
  exact mf _ (nH _ _ _ _ _ _ _ _ _ _ _ _ _ w hk.1 hk.2 WK)
def YU{gs:List (Nat×List ad)}{N:Nat}{σ':dx}{W':AW}{w w':ar}(he:fR (σG gs) (WG gs N) w σ' W' w'):eG w w':=
 ⟨he.os,he.tape,he.output,he.size,λB hB=>he.keep B hB aqh⟩
def rX{P:ah}(hm:P.follows .mixedOrders=true){bad:List Nat}(hP:nE ai.ng bad 0 P.funcs.toList=true){spec:Callee}(hs:cl P ai.ng spec)(n:Nat)
 {gs:List (Nat×List ad)}{N:Nat}(hN:gs.all (λx=>Nat.blt x.1 N)=true)(Xt:ai.ng.all (λg=>(gs.find? (λx=>x.1==g)).isSome)=true){i:Nat}{args:List ad}(pP:args.all bN=true)
 (h:T3 (UT P bad spec n (.func (.func i) #[] #[]) args (WG gs N))=true)(w:ar)(hl:GN gs w.heap):
 Calls P i args.toArray w λe w'=>e=.returned (.bool true)/\eG w w':=by
 obtain⟨W',hr⟩:=ZD h;have hc:=Nl hm rfl hP hs n _ _ _ _ _ hr (σG gs) w (.func (.func i) #[] #[]) args (ajc hN hl) (aeZ Xt)
  (.func _ _ _ _ _ _ (.func i) rfl (λi v v' x=>by simp at x) rfl (λi v v' x=>by simp at x)) (UN pP)
 unfold B0 at hc;obtain⟨_,hc⟩:=hc;have e1:(#[]:Array ad)++args.toArray++#[]=args.toArray:=by simp
 rw[e1]at hc;refine(uj (n:=0)).1 ?_;refine pf (show CallsIn Fence.wide 0 P i args.toArray w _ from hc) ?_;rintro e w' ⟨v,rfl,σ',hv,_,he⟩;exact⟨by rw[hv.jY],YU he⟩
def uE{ng bad:List Nat}{F:Nat}:∀{l:List iv} {i:Nat},nE ng bad i l=true->nE ng (F::bad) i l=true
 |[],_,_=>rfl
 |f::l,i,h=>by
  simp only[nE,bA,pd]at h|-;refine⟨?_,uE h.2⟩;rcases h.1 with h1|h1
  ·exact .inl (xy.2 (List.mem_cons_of_mem _ (xy.1 h1)))
  ·exact .inr h1
end
section
variable [ai]
def Q0:List (Nat×Callee)->Callee
 |[]=>λ_ _ _=>none
 |(F,c)::l=>λf args W=>match f with
  |.func (.func g) fs cs=>(match Nat.beq g F with
   |true=>c (.func (.func g) fs cs) args W
   |false=>Q0 l (.func (.func g) fs cs) args W)
  |_=>none
def Jp{P:ah}{ng:List Nat}:∀{l:List (Nat×Callee)},(∀x∈l,cl P ng x.2)->cl P ng (Q0 l)
 |[],_=>λf args W v W' h=>by cases h
 |(F,c)::l,hl=>by
  intro f args W v W' h;unfold Q0 at h;split at h;case h_2=>cases h
  split at h
  ·exact hl (F,c) (by simp) _ _ _ _ _ h
  ·exact Jp (λx hx=>hl x (by simp[hx])) _ _ _ _ _ h
def Jh(gs:List (Nat×List ad))(W:AW):Prop:=∀x∈gs,W.get x.1=some (.ro x.2)/\x.1<W.next
def Jh.mono{gs:List (Nat×List ad)}{W W':AW}(h:Jh gs W)(aM:Le W W'):Jh gs W':=λx hx=>⟨by rw[aM.get _ (h x hx).2];exact(h x hx).1,fb (h x hx).2 aM.next⟩
def Df(F:Nat)(gs:List (Nat×List ad))(val:List ad->Option ad):Callee:=λf args W=>match f with
 |.func (.func g) fs cs=>(match Nat.beq g F&&(fs.isEmpty&&cs.isEmpty)with
  |true=>open Classical in if Jh gs W then(match val args with
   |some v=>if bN v&&args.all bN then some (v,W)else none
   |none=>none)else none
  |false=>none)
 |_=>none
def aeJ{F:Nat}{gs:List (Nat×List ad)}{val:List ad->Option ad}{args:List ad}{W:AW}{v:ad}(hg:Jh gs W)(hv:val args=some v)(hp:bN v=true)(ha:args.all bN=true):
 Df F gs val (.func (.func F) #[] #[]) args W=some (v,W):=by
 unfold Df;simp only[uC,Array.isEmpty_empty,fM,an hg,hv,hp,ha,bi]
def ael{P:ah}{ng:List Nat}{F:Nat}{fn:iv}{body:bV}(Mn:P.funcs[F]? =some fn)(qC:(fn.name== "runtime.NumGoroutine")=false)(hb:fn.body=some body){gs:List (Nat×List ad)}(PG:gs.all (λx=>x.2.all cC&&P8 x.1 ng)=true){val:List ad->Option ad}
 (yz:∀args v,val args=some v->∀w:ar,GN gs w.heap->Calls P F args.toArray w λe w'=>e=.returned v/\eG w w'):cl P ng (Df F gs val):=by
 intro f args W v W' h σ w f' cZ hW hG hf db;unfold Df at h;split at h;case h_2=>cases h
 rename_i g fs cs;split at h;case h_2=>cases h
 rename_i QQ;simp only[bA,fo,Bq]at QQ;obtain⟨rfl,rfl,rfl⟩:=QQ;split at h;case isFalse=>cases h
 rename_i hgl;split at h;case h_2=>cases h
 rename_i u hu;split at h;case isFalse=>cases h
 rename_i pP;injection h with h;injection h with h1 h2;subst h1;subst h2;simp only[bA]at pP;obtain⟨LO,yj,cU,E1,HP,nT,rfl⟩:=hf.mR;cases E1;obtain rfl:yj=#[]:=by have h1:yj.toList.length=0:=HP.1.symm;exact vt.1 (mi.1 h1)
 obtain rfl:cU=#[]:=by have h1:cU.toList.length=0:=nT.1.symm;exact vt.1 (mi.1 h1)
 obtain rfl:cZ=args:=LR.adU (λv v'=>gH) pP.2 db;have hl:GN gs w.heap:=λx hx=>by have hs:=dd.1 PG x hx;simp only[bA]at hs;obtain⟨e,he⟩:=hG x.1 (xy.1 hs.2);obtain⟨c,t,fr,k1,_,k3⟩:=hW.obj x.1 _ _ (hgl x hx).1 he;refine⟨c,t,fr,k1,λi v hv=>?_⟩;obtain⟨v',a,b⟩:=k3 i v hv;have hsv:=dd.1 hs.1 v (za hv);have:v'=v:=NC hsv b;subst this;exact⟨by simpa using a,hsv⟩
 refine⟨fk Mn qC hb _ w,?_⟩;have e1:(#[]:Array ad)++cZ.toArray++#[]=cZ.toArray:=by simp
 rw[e1];refine pf (show CallsIn Fence.wide 0 P g _ w _ from(uj (n:=0)).2 (yz _ _ hu w hl)) ?_;rintro e w' ⟨rfl,hq⟩;exact⟨_,rfl,σ,jJ pP.1,hq.rel hW,hq.ext σ W⟩
def Ny(σ:dx)(W:AW):Prop:=∀b g,σ b=some g->∃cs,W.get b=some (.ro cs)
def Ny.quiet{σ σ':dx}{W W':AW}{w w':ar}(h:Ny σ W)(he:fR σ W w σ' W' w'):eG w w':=
 ⟨he.os,he.tape,he.output,he.size,λB hB=>he.keep B hB (by rintro⟨b,g,hg,_,hn⟩;obtain⟨cs,hc⟩:=h b g hg;exact hn cs hc)⟩
def acV{P:ah}{o:Callee}(mD:cl P ai.ng o){σ:dx}{W W':AW}{w:ar}(hW:bI σ W w.heap)(hG:BM σ ai.ng)(uN:Ny σ W){i:jD}{args cZ:List ad}(db:LR σ args cZ){v:ad}(hv:bN v=true)
 (h:o (.func (.func i) #[] #[]) args W=some (v,W')):Calls P i cZ.toArray w λe w'=>e=.returned v/\eG w w':=by
 have hc:=mD _ _ _ _ _ h σ w (.func (.func i) #[] #[]) cZ hW hG (.func _ _ _ _ _ _ (.func i) rfl (λi v v' x=>by simp at x) rfl (λi v v' x=>by simp at x)) db;unfold B0 at hc;obtain⟨_,hc⟩:=hc;have e1:(#[]:Array ad)++cZ.toArray++#[]=cZ.toArray:=by simp
 rw[e1]at hc;refine(uj (n:=0)).1 ?_;refine pf (show CallsIn Fence.wide 0 P i cZ.toArray w _ from hc) ?_;rintro e w' ⟨v',rfl,σ',hv',_,he⟩;exact⟨by rw[gH hv hv'],uN.quiet he⟩
def ahE{gs:List (Nat×List ad)}{N:Nat}:Ny (σG gs) (WG gs N):=by intro b g hg;obtain⟨x,_,_,_,ht⟩:=wM hg;exact⟨x.2,ht⟩
def agA{gs:List (Nat×List ad)}{N:Nat}(hN:gs.all (λx=>Nat.blt x.1 N)=true)(hd:∀x∈gs,gs.find? (λy=>y.1==x.1)=some x):Jh gs (WG gs N):=by intro x hx;refine⟨?_,show x.1<N by have:=dd.1 hN x hx;simpa[jH]using this⟩;show T.get (path x.1) (Jo gs)=_;rw[BD,hd x hx];rfl
end
end Go.Eng
namespace Go.Eng
open Go
section
variable [ai]
section
variable {P:ah} {W:AW}
def bf(l:List UInt8):ByteArray:=⟨l.toArray⟩
def QH(b:ByteArray):bf b.data.toList=b:=by cases b;simp[bf]
def nJ(l:List UInt8):(bf l).size=l.length:=by simp[bf,ByteArray.size]
def CK(l:List Nat):Ig l=.string (bf (l.map UInt8.ofNat)):=aT rfl rfl
def Im(l:List UInt8)(i:Nat):(bf l)[i]? =l[i]? :=by
 by_cases h:i<l.length
 ·have h2:i<(bf l).size:=by rw[nJ];exact h
  rw[bJ h,getElem?_pos (bf l) i h2];rfl
 ·rw[kn (by omega),getElem?_neg (bf l) i (by rw[nJ];exact h)]
def M6{s:Sem ad}{v:ad}(h:cH P s=some v)(hv:bN v=true)(c:Bool)(hc:c=true):(pA P c (do pure (.value (<-s)))).map (λv=>(v,W))=some (v,W):=by subst hc;unfold pA;simp only[bi,RU h,hv,dq]
def lI{t:ag}(hs:P.underlying t=some .string){l:List UInt8}{i:Nat}{k:be}(hi:i<l.length):rf P t (.string (bf l)) (.int k (i:Int)) W=some (.int .u8 (l[i].toNat:Int),W):=by
 have e:rf P t (.string (bf l)) (.int k (i:Int)) W=(pA P (bN (.string (bf l))&&(bN (.int k (i:Int))&&true)) (do pure (.value (<-Instr.index t (.string (bf l)) (.int k (i:Int)))))).map λv=>(v,W):=by unfold rf;rw[hs]
 rw[e];refine M6 ?_ rfl _ rfl;unfold Instr.index;have h0:(0:Int)<=(i:Int):=by omega
 simp only[asIntOf,pure_bind,gl,fw hs,bM,h0,bi,vq,Im,bJ hi,jv]
def fY{ts:Array ag}{ty:ag}{cf:Array Bool}(h:(ts[0]?).bind P.underlying=some .string)(l:List UInt8):aZ P .len ts ty cf [.string (bf l)] W=some (.ae l.length,W):=by
 obtain⟨t,h1,h2⟩:∃t,ts[0]? =some t/\P.underlying t=some .string:=by
  cases ht:ts[0]? with
  |none=>rw[ht]at h;cases h
  |some t=>rw[ht]at h;exact⟨t,rfl,h⟩
 have e:aZ P .len ts ty cf [.string (bf l)] W=(pA P ([Value.string (bf l)].all bN) (builtin .len ts ty cf #[.string (bf l)])).map λv=>(v,W):=by unfold aZ;rfl
 rw[e];have e2:builtin .len ts ty cf #[.string (bf l)]=(do pure (.value (<-Builtin.len_ ts ty #[.string (bf l)]))):=rfl;rw[e2];refine M6 ?_ rfl _ rfl;unfold Builtin.len_;simp only[h1,List.getElem?_toArray,FI,gl,fw h2,bM,jv,nJ];rfl
def Az(l:List UInt8)(a b:Nat):(bf l).extract a b=bf ((l.take b).drop a):=by
 have h:((bf l).extract a b).data=(bf ((l.take b).drop a)).data:=by rw[ByteArray.data_extract];apply qk.1;simp[bf,P0,List.drop_take]
 cases hx:(bf l).extract a b with
 |mk d=>rw[hx]at h;simp only at h;rw[h]
def abp{t:ag}(hs:P.underlying t=some .string){l:List UInt8}{a:Nat}{k:be}(h:a<=l.length):eP P t (.string (bf l)) (some (.int k (a:Int))) none none W=some (.string (bf (l.drop a)),W):=by
 have e:eP P t (.string (bf l)) (some (.int k (a:Int))) none none W=(pA P (([Value.string (bf l),.int k (a:Int)]:List ad).all bN) (do pure (.value (<-Instr.sliceAt t (.string (bf l)) (some (.int k (a:Int))) none none)))).map λv=>(v,W):=by unfold eP mz;rw[hs];rfl
 rw[e];refine M6 ?_ rfl _ rfl;have h0:(0:Int)<=(a:Int)/\(a:Int)<=((bf l).size:Int):=by rw[nJ];omega
 have hx:(bf l).extract a (bf l).size=bf (l.drop a):=by rw[Az,nJ,cO]
 unfold Instr.sliceAt Instr.slice Instr.sliceBounds Instr.sliceBound;simp only[gl,fw hs,bM,asIntOf,pure_bind,h0,kE,bi,jv,vq,hx,vg,gY,b9]
def akE{t:ag}(hs:P.underlying t=some .string){l:List UInt8}{a:Nat}{k:be}(h:a<=l.length):eP P t (.string (bf l)) none (some (.int k (a:Int))) none W=some (.string (bf (l.take a)),W):=by
 have e:eP P t (.string (bf l)) none (some (.int k (a:Int))) none W=(pA P (([Value.string (bf l),.int k (a:Int)]:List ad).all bN) (do pure (.value (<-Instr.sliceAt t (.string (bf l)) none (some (.int k (a:Int))) none)))).map λv=>(v,W):=by unfold eP mz;rw[hs];rfl
 rw[e];refine M6 ?_ rfl _ rfl;have h0:(0:Int)<=(a:Int)/\(a:Int)<=((bf l).size:Int):=by rw[nJ];omega
 have hx:(bf l).extract 0 a=bf (l.take a):=by rw[Az];simp
 unfold Instr.sliceAt Instr.slice Instr.sliceBounds Instr.sliceBound;simp only[gl,fw hs,bM,asIntOf,pure_bind,h0,kE,bi,jv,vq,hx,vg,gY,b9]
def Cn(l:List UInt8):(bf l).toList=l:=by rw[ByteArray.toList_eq];rfl
def uP{t:ag}{c d:Bool}{a b:List UInt8}:bO P .eql t c d (.string (bf a)) (.string (bf b)) W=some (.bool (a==b),W):=by rw[Ff,Cn,Cn]
def aS(a:bg):vP (.pointer (some a)) W=some (.pointer (some a),W):=aT rfl rfl
def rT{t:ag}{x:ad}:iP P [(x,some t)] W=(iU P t x W).bind λr=>some (r.1,W):=by unfold iP iU;simp only[wg];cases lR P W t x<;>rfl
def bB{t:ag}{x u:ad}:iP P [(x,some t),(u,none)] W=(iU P t x W).bind λr=>some (.tuple #[r.1,u],W):=by unfold iP iU;simp only[wg];cases lR P W t x<;>rfl
def AS{t t2:ag}{x y:ad}:iP P [(x,some t),(y,some t2)] W=(iU P t x W).bind λr=>(iU P t2 y W).bind λq=>some (.tuple #[r.1,q.1],W):=by unfold iP iU;simp only[wg];cases lR P W t x<;>cases lR P W t2 y<;>rfl
def DI{t t2:ag}{x y u:ad}:iP P [(x,some t),(y,some t2),(u,none)] W=(iU P t x W).bind λr=>(iU P t2 y W).bind λq=>some (.tuple #[r.1,q.1,u],W):=by unfold iP iU;simp only[wg];cases lR P W t x<;>cases lR P W t2 y<;>rfl
def ahS{b:Nat}{cs:List ad}(h:aU W b=some cs)(h1:cs.all one=true):fm cs.length (.pointer (some ⟨b,0,none⟩)) (.agg cs.toArray) W=some (ak,W.put b (.cells cs)):=by rw[DP,h];simp only[bM,xr,aI,aR,h1,kE,bi,ip,tj,jG,Eu,fp]
def xT{b n:Nat}{cs:List ad}(h:aH W b=some cs)(hn:cs.length=n):dF n (.pointer (some ⟨b,0,none⟩)) W=some (.agg cs.toArray,W):=by rw[Jt,h];simp only[bM,jB,<-hn,cO,bi]
end
end
def SX:=aC @Ee (aC @ak6 (aC @jR (aC @Q8 (aC @Yu (aC @SN (aC @Vn (aC @YG (aC @UM (aC @Pd (aC @NU (aC @Oc (aC @NW (aC @PT (aC @adE (aC @Zc (aC @aen (aC @ZC (aC @abU (aC @Uv (aC @PQ (aC @Uo (aC @Yf (aC @T1 (aC @YP (aC @PF (aC @Yv (aC @ahj (aC @abL (aC @afr (aC @aeA (aC @ad2 (aC @aaw (aC @acq (aC @adK (aC @aaY (aC @U7 (aC @VS (aC @UB (aC @adS (aC @akP (aC @Bool.not_true (aC @Bool.not_false (aC @decide_true (@decide_false))))))))))))))))))))))))))))))))))))))))))))
def MX:=aC @Vp (aC @Jt (aC @bC (aC @de (aC @bM.{0,0} (aC @dq.{0,0} (aC @jB.{0} (aC @List.drop_succ_cons.{0} (aC @Ol.{0} (aC @tj.{0} (aC @cP.{0} (aC @p8.{0} (aC @FI.{0} (aC @Ef.{0} (aC @aI (aC @bi.{1} (aC @kE (aC @cV (aC @UI (aC @OX (aC @Jm (aC @aa5 (aC @AX (aC @Qz (aC @Wu (aC @fJ (aC @UU (aC @Yz (aC @i9 (aC @Lb (aC @Pa (aC @oz (aC @gK (aC @fM (aC @jy (aC @agI (aC @xq (aC @Aq (aC @T0 (aC @jh (aC @DP (aC @G5 (aC @fL (aC @uR (aC @bZ (aC @An (aC @bQ (aC @PP.{0} (aC @ON.{0} (aC @jG.{0} (aC @pb.{0} (aC @cI (aC @aea (aC @pG (aC @cJ (aC @dz.{0} (aC @wU.{0} (aC @xr.{0} (aC @fp.{0} (aC @VY (aC @List.drop_nil.{0} (@List.take_nil.{0})))))))))))))))))))))))))))))))))))))))))))))))))))))))))))))
section
variable [ai]
section
variable {P:ah} {W:AW} {α:Type}
def sO(lo:Nat)(W:AW)(z:Nat)(f:α->List ad)(v:ad)(l:List α):Prop:=
 (l=[]/\v=.slice none 0 0)\/(l≠[]/\∃B,lo<=B/\B<W.next/\v=.slice (some ⟨B,0,none⟩) l.length (eJ+z)/\W.get B=some (.cells (l.flatMap f)))
def cm{z:Nat}{f:α->List ad}(hf:∀a,(f a).length=z):∀l:List α,(l.flatMap f).length=l.length*z
 |[]=>by simp
 |a::l=>by rw[fN,cD,hf,cm hf l,cP,Nat.succ_mul,Nat.add_comm]
def sO.nil(lo:Nat)(W:AW)(z:Nat)(f:α->List ad):sO lo W z f (.slice none 0 0) []:=.inl ⟨rfl,rfl⟩
def sO.mono{lo z:Nat}{f:α->List ad}{v:ad}{l:List α}{W':AW}(h:sO lo W z f v l)(aM:Le W W'):sO lo W' z f v l:=by
 rcases h with h|⟨h0,B,h1,h2,h3,h4⟩
 ·exact .inl h
 ·exact .inr ⟨h0,B,h1,fb h2 aM.next,h3,by rw[aM.get B h2];exact h4⟩
def sO.push{ts:Array ag}{z bytes lo:Nat}{f:α->List ad}{v:ad}{l:List α}{a:α}(hk:mL P ts z bytes=true)(hf:∀a,(f a).length=z)(h1:∀a,(f a).all one=true)
 (h:sO lo W z f v l){b c:Nat}(hc:aH W b=some (f a))(hb:l.length+1<1099511627776)(lA:(2*(l.length+1)+192)*bytes<=281474976710656)(zB:lo<=W.next):
 ∃v' W',dB P W ts v (.slice (some ⟨b,0,none⟩) 1 c)=some (v',W')/\sO lo W' z f v' (l++[a])/\W.next<=W'.next/\∀A,Le A W->A.next<=lo->Le A W':=by
 have hn:f a=((f a).drop 0).take (1*z):=by rw[jB,kv,<-hf a,cO]
 have hl:(f a).length=1*z:=by rw[hf];omega
 rcases h with⟨rfl,rfl⟩|⟨h0,B,i1,i2,rfl,i4⟩
 ·refine⟨_,_,O5 (b:=b) (o:=0) (c:=c) hk hc hn hl (by omega) (h1 a) (by omega) (by simpa using lA),.inr ⟨by simp,W.next,zB,by rw[AW.av];omega,by simp,by rw[AW.aL];simp⟩,by rw[AW.av];omega,λA hA _=>hA.add _⟩
 ·have t8:0<l.length:=BF.2 h0;refine⟨_,_,Vd (b:=b) (o:=0) (c:=c) hk hc hn hl (by omega) (h1 a) i4 (cm hf l) (by omega) lA t8,.inr ⟨by simp,W.next,zB,by rw[AW.av,AW.eK];omega,by simp,?_⟩,by rw[AW.av,AW.eK];omega,λA hA hl=>(hA.kill (by omega)).add _⟩;have:=(W.kill B).aL (.cells (l.flatMap f++f a));rw[AW.eK]at this;rw[this,jo];simp
def sO.row{lo z:Nat}{f:α->List ad}{v:ad}{l:List α}{at_:List ad->Nat->α->Prop}(hf:∀a,(f a).length=z)(h:sO lo W z f v l)(vL:∀a pre post,at_ (pre++(f a++post)) pre.length a):Row W z at_ v l:=by
 rcases h with⟨rfl,rfl⟩|⟨h0,B,i1,i2,rfl,i4⟩
 ·exact⟨none,0,rfl,.inl rfl⟩
 ·refine⟨_,_,rfl,.inr ⟨B,0,_,rfl,i2,ao i4,λi hi=>?_⟩⟩;have e:l.flatMap f=(l.take i).flatMap f++(f l[i]++(l.drop (i+1)).flatMap f):=by rw[<-fN,<-ri hi,<-jo,wX]
  have e2:((l.take i).flatMap f).length=0+i*z:=by rw[cm hf,cR];rw[oN (by omega),aI]
  rw[e,<-e2];exact vL _ _ _
def ajo{W':AW}{z:Nat}{at_:List ad->Nat->α->Prop}{v:ad}{l:List α}(aM:Le W W')(h:Row W' z at_ v l):∃W2,gc W (v,W')=(v,W2)/\Le W W2/\Le W2 W'/\Row W2 z at_ v l:=by
 cases hp:(bN v&& !Yq v)
 ·exact⟨W',jx hp,aM,.refl _,h⟩
 ·refine⟨W,zi hp aM,.refl _,aM,?_⟩;obtain⟨a,c,rfl,h⟩:=h;rcases h with h|⟨b,o,cs,rfl,_⟩
  ·exact⟨a,c,rfl,.inl h⟩
  ·exact absurd hp (by simp[bN,eI,cC])
def aaS{o t:Option (ad×AW)}{z:Nat}{at_:List ad->Nat->α->Prop}{l:List α}(h:Ok t λr=>Le W r.2/\Row r.2 z at_ r.1 l)(Nq:∀{r},t=some r->o=some (gc W r)):∃v W2,o=some (v,W2)/\Le W W2/\Row W2 z at_ v l:=by obtain⟨⟨v,W'⟩,h1,h2,h3⟩:=h;obtain⟨W2,k1,k2,_,k3⟩:=ajo h2 h3;exact⟨v,W2,by rw[Nq h1,k1],k2,k3⟩
end
end
section
variable [ai]
section
variable {P:ah} {bad:List Nat} {spec:Callee}
def apV(x:X)(l:Nat)(R:ai.Fr)(nt:Nat)(ps:Array Tmp)(aB4 bd:bV)(W:AW):ad×AW:=match x with
 |.normal=>(.bool true,W.put l (.loop .ready none R nt ps aB4 bd))
 |x=>(.bool false,W.put l (.loop .done x.jump R nt ps aB4 bd))
def E8{l nt:Nat}{R:ai.Fr}{ps:Array Tmp}{aB4 bd:bV}{W:AW}{args:List ad}(hl:W.get l=some (.loop .ready none R nt ps aB4 bd))(hn:args.length=ps.size)
 {R1:ai.Fr}{W1:AW}(h1:fW P (om P bad spec) false nt aB4 LT (nS ps.toList args R) W np=some (.normal,R1,W1))(hk:W1.get l=some (.loop .ready none R nt ps aB4 bd))
 {x2:X}{R2:ai.Fr}{W2:AW}(h2:fW P (om P bad spec) false nt bd LT R1 (W1.put l (.loop .busy none R nt ps aB4 bd)) np=some (x2,R2,W2))(WS:W2.get l=some (.loop .busy none R nt ps aB4 bd)):
 om P bad spec (.func (.yield l) #[] #[]) args W=some (apV x2 l R nt ps aB4 bd W2):=by
 refine abK hl (by simpa using hn) ?_;unfold OJ;rw[show(#[]:Array ad).toList++args=args from rfl,h1];simp only[bM,yl,hk,h2,WS];unfold apV;cases x2<;>rfl
def wQ{call:Callee}{i:Nat}{fs cs:Array ad}{obj:dH}{W W2:AW}{v:ad}(h:call (.func (.func i) fs cs) [.func (.yield W.next) #[] #[]] (W.add obj)=some (v,W2))
 {st:LoopState}{R:ai.Fr}{nt:Nat}{ps:Array Tmp}{aB4 bd:bV}(hg:W2.get W.next=some (.loop st none R nt ps aB4 bd))(hs:st≠ .busy):kX call (.func (.func i) fs cs) obj W=some (.normal,W2.kill W.next):=by
 unfold kX;simp only[h,hg]
def KV{call:Callee}{i:Nat}{fs cs:Array ad}{obj:dH}{W W2:AW}{v:ad}(h:call (.func (.func i) fs cs) [.func (.yield W.next) #[] #[]] (W.add obj)=some (v,W2))
 {x:X}{R:ai.Fr}{nt:Nat}{ps:Array Tmp}{aB4 bd:bV}(hg:W2.get W.next=some (.loop .done x.jump R nt ps aB4 bd)):kX call (.func (.func i) fs cs) obj W=some (x,W2.kill W.next):=by
 unfold kX;simp only[h,hg];cases x<;>rfl
end
end
end Go.Eng
namespace Go.Eng
open Go Go.RowKit Go.Sort
section
variable [ai]
end
end Go.Eng
namespace Go.Eng
open Go
section
variable [ai]
section
variable {P:ah} {W:AW} {α:Type}
def jc(n:Int):List ad:=[.ae n]
def jV(n:Int):(jc n).length=1:=rfl
def wF(n:Int):(jc n).all one=true:=rfl
def Wn(n:Int)(pre post:List ad):Lw .i64 (pre++(jc n++post)) pre.length n:=by unfold Lw;rw[sU (by omega)];simp[jc]
def QP:∀l:List Int,l.flatMap jc=l.map (Value.int .i64)
 |[]=>rfl
 |a::l=>by rw[fN,mc,QP l];rfl
def sO.ints{lo:Nat}{v:ad}{l:List Int}(h:sO lo W 1 jc v l):dR W v l:=h.row jV Wn
def agk{W':AW}{z:Nat}{at_:List ad->Nat->α->Prop}{v:ad}{k:be}{e:Int}{l:List α}(aM:Le W W')(h:Row W' z at_ v l):∃W2,gc W (.tuple #[v,.int k e],W')=(.tuple #[v,.int k e],W2)/\Le W W2/\Le W2 W'/\Row W2 z at_ v l:=by
 obtain⟨a,c,rfl,h⟩:=h;cases a with
 |none=>
  refine⟨W,zi rfl aM,.refl _,aM,none,c,rfl,?_⟩;rcases h with h|⟨b,o,cs,h,_⟩
  ·exact .inl h
  ·cases h
 |some a=>exact⟨W',jx rfl,aM,.refl _,some a,c,rfl,h⟩
def ag7{o t:Option (ad×AW)}{z:Nat}{at_:List ad->Nat->α->Prop}{l:List α}{k:be}{e:Int}(h:Ok t λr=>∃v,r.1=.tuple #[v,.int k e]/\Le W r.2/\Row r.2 z at_ v l)(Nq:∀{r},t=some r->o=some (gc W r)):
 ∃v W2,o=some (.tuple #[v,.int k e],W2)/\Le W W2/\Row W2 z at_ v l:=by
 obtain⟨⟨u,W'⟩,h1,v,h2,h3,h4⟩:=h;simp only at h2 h3 h4;subst h2;obtain⟨W2,k1,k2,_,k3⟩:=agk (k:=k) (e:=e) h3 h4;exact⟨v,W2,by rw[Nq h1,k1],k2,k3⟩
def ahi{ts:Array ag}{z bytes:Nat}(hk:mL P ts z bytes=true){b o n c:Nat}{cs new:List ad}(hc:aH W b=some cs)(hn:new=(cs.drop o).take (n*z))(hl:new.length=n*z)(h0:0<n)(h1:new.all one=true)
 {B m:Nat}{yU:List ad}(ho:aH W B=some yU)(P9:yU.length=m*z)(hb:m+n<1099511627776)(lA:(2*(m+n)+192)*bytes<=281474976710656)(hm:0<m):
 dB P W ts (.slice (some ⟨B,0,none⟩) m m) (.slice (some ⟨b,o,none⟩) n c)=some (.slice (some ⟨W.next,0,none⟩) (m+n) (eJ+z),W.add (.cells (yU++new))):=by
 obtain⟨t,e,zv,k1,k2,k3,k4,k5,k6⟩:=sB hk;have hr:pD W b o (n*z)=some new:=by rw[ka,hc];simp only;rw[an (by rw[<-hn];exact hl),hn]
 have hr1:cp W (.slice (some ⟨b,o,none⟩) n c) (n*z)=some new:=by unfold cp;simp only;rw[aq (by have:=p9 h0 k5;omega),bL];exact hr
 have uN:pD W B 0 (m*z)=some yU:=by rw[ka,ho];simp only[jB];rw[ou (by omega),an P9]
 have hr2:cp W (.slice (some ⟨B,0,none⟩) m m) (m*z)=some yU:=by unfold cp;simp only;rw[aq (by have:=p9 hm k5;omega),bL];exact uN
 have hB:m<eJ:=by unfold eJ;omega
 have Tr:¬m=eJ+z:=by unfold eJ;omega
 unfold dB;simp only[k1,k2,k3,k4,bi,an (aC k5 (aC k6 (aC hb lA))),aq (show¬n=0 by omega),hr1,hr2,h1,aq Tr,an hB,aq (show¬m+n<=m by omega),AW.dU]
def Tg(l:List Int)(c:Nat)(W:AW):dR (W.add (.cells (l.map (Value.int .i64)))) (.slice (some ⟨W.next,0,none⟩) l.length c) l:=
 ⟨_,_,rfl,.inr ⟨W.next,0,_,rfl,by rw[AW.av];omega,bC,λi hi=>by unfold Lw;rw[aI,iI,ly,bJ hi];rfl⟩⟩
end
end
section
variable [ai]
def yB(l:List (Int×ad×Nat)):List MapEntry:=l.map λp=>{key:=.ae p.1,val:=p.2.1,born:=p.2.2}
def ME:List (Int×ad×Nat)->Int->Option ad
 |[],_=>none
 |p::l,k=>if k=p.1 then some p.2.1 else ME l k
def tX:List (Int×ad×Nat)->Int->Nat->Option (Nat×ad)
 |[],_,_=>none
 |p::l,k,i=>if k=p.1 then some (i,p.2.1)else tX l k (i+1)
def NY(l:List (Int×ad×Nat))(k:Int):∀i,Instr.findNow (.int .i64) (.ae k) (yB l) i=some (tX l k i):=by
 induction l with
 |nil=>intro i;rfl
 |cons p l ih=>
  intro i;show(match Instr.sameNow (.int .i64) (.ae k) (.ae p.1)with|some true=>some (some (i,p.2.1))|some false=>Instr.findNow (.int .i64) (.ae k) (yB l) (i+1)|none=>none)=_;unfold tX;by_cases h:k=p.1
  ·have:Instr.sameNow (.int .i64) (.ae k) (.ae p.1)=some true:=by simp[Instr.sameNow,h]
   rw[this,an h]
  ·have:Instr.sameNow (.int .i64) (.ae k) (.ae p.1)=some false:=by simp[Instr.sameNow,h]
   rw[this,aq h];exact ih (i+1)
def AY(l:List (Int×ad×Nat))(k:Int):∀i,ME l k=(tX l k i).map (·.2):=by
 induction l with
 |nil=>intro i;rfl
 |cons p l ih=>
  intro i;unfold ME tX;by_cases h:k=p.1
  ·rw[an h,an h];rfl
  ·rw[aq h,aq h];exact ih (i+1)
def mO(l:List (Int×ad×Nat)):List Int:=l.map (·.1)
def RA{l:List (Int×ad×Nat)}{k:Int}(h:k∉mO l):ME l k=none:=by
 induction l with
 |nil=>rfl
 |cons p l ih=>unfold mO at h;rw[mc,eU,not_or]at h;unfold ME;rw[aq h.1];exact ih h.2
def A4{k:Int}{v:ad}:∀{l:List (Int×ad×Nat)} {i j:Nat},(mO l).Nodup->tX l k i=some (j,v)->i<=j/\(∃b,l[j-i]? =some (k,v,b)/\∀v' k',ME (l.set (j-i) (k,v',b)) k'=if k'=k then some v' else ME l k')/\
 (∀k',ME (l.eraseIdx (j-i)) k'=if k'=k then none else ME l k')/\(mO (l.eraseIdx (j-i))).Nodup/\(l.eraseIdx (j-i)).length+1=l.length/\∀v' b,mO (l.set (j-i) (k,v',b))=mO l
 |[],i,j,_,h=>by cases h
 |p::l,i,j,hn,h=>by
  unfold tX at h;have Ws:p.1∉mO l/\(mO l).Nodup:=List.nodup_cons.1 hn;by_cases hk:k=p.1
  ·rw[an hk]at h;injection h with h;injection h with h1 h2;subst h1;rw[Bb];refine⟨aR _,⟨p.2.2,by rw[hk,<-h2];rfl,λv' k'=>?_⟩,λk'=>?_,Ws.2,rfl,λv' b=>by rw[PP];simp[mO,hk]⟩
   ·rw[PP];unfold ME;rw[<-hk];by_cases ya:k'=k
    ·rw[an ya,an ya]
    ·rw[aq ya,aq ya,aq ya]
   ·show ME l k'=_;by_cases ya:k'=k
    ·rw[an ya,ya,hk];exact RA Ws.1
    ·rw[aq ya];conv=>rhs;unfold ME
     rw[aq (λe=>ya (e.trans hk.symm))]
  ·rw[aq hk]at h;obtain⟨h1,⟨b,h2,h3⟩,h4,h5,h6,h7⟩:=A4 Ws.2 h;have e:j-i=(j-(i+1))+1:=by omega
   rw[e];refine⟨by omega,⟨b,by rw[Ef];exact h2,λv' k'=>?_⟩,λk'=>?_,?_,?_,λv' b=>?_⟩
   ·rw[ON];unfold ME;by_cases hp:k'=p.1
    ·have:¬k'=k:=λx=>hk (x.symm.trans hp)
     rw[an hp,aq this,an hp]
    ·rw[aq hp,h3,aq hp]
   ·rw[Dh];unfold ME;by_cases hp:k'=p.1
    ·have:¬k'=k:=λx=>hk (x.symm.trans hp)
     rw[an hp,aq this,an hp]
    ·rw[aq hp,h4,aq hp]
   ·rw[Dh];refine List.nodup_cons.2 ⟨λhm=>Ws.1 ?_,h5⟩;unfold mO at hm|-;obtain⟨x,hx,hxe⟩:=mB.1 hm;exact mB.2 ⟨x,List.mem_of_mem_eraseIdx hx,hxe⟩
   ·rw[Dh,cP,cP,h6]
   ·rw[ON];show p.1::mO _=p.1::mO l;rw[h7]
def A1{k:Int}:∀{l:List (Int×ad×Nat)} {i:Nat},tX l k i=none->k∉mO l/\∀v b k',ME (l++[(k,v,b)]) k'=if k'=k then some v else ME l k'
 |[],i,_=>⟨by simp[mO],λv b k'=>by simp[ME]⟩
 |p::l,i,h=>by
  unfold tX at h;by_cases hk:k=p.1
  ·rw[an hk]at h;cases h
  ·rw[aq hk]at h;obtain⟨h1,h2⟩:=A1 h;refine⟨?_,λv b k'=>?_⟩
   ·unfold mO;rw[mc,eU,not_or];exact⟨hk,h1⟩
   ·rw[pb];unfold ME;by_cases hp:k'=p.1
    ·have:¬k'=k:=λx=>hk (x.symm.trans hp)
     rw[an hp,aq this,an hp]
    ·rw[aq hp,h2,aq hp]
def Ra{α β:Type}(f:α->β):∀(l:List α) (i:Nat),(l.map f).eraseIdx i=(l.eraseIdx i).map f
 |[],_=>by simp
 |a::l,0=>rfl
 |a::l,i+1=>by rw[mc,Dh,Dh,mc,Ra f l i]
def xn(W:AW)(r:Nat)(m:Int->Option ad)(n:Nat):Prop:=∃l c,W.get r=some (.map (yB l) c)/\(mO l).Nodup/\l.length=n/\∀k,ME l k=m k
section
variable {P:ah} {W:AW} {r:Nat} {m:Int->Option ad} {n:Nat} {t kt e:ag}
def Vy(l:List (Int×ad×Nat)):fZ (yB l)=true:=by unfold fZ yB;rw[List.all_map,dd];intro p _;rfl
def wl(hk:P.underlying kt=some (.int .i64))(empty:Bool)(k:Int):vX P empty kt (.ae k)=true:=by
 unfold vX;have:cH P (Instr.checkKey empty 10000 kt (.ae k))=some ():=by unfold Instr.checkKey;simp only[gl,fw hk,bM];rfl
 rw[this];rfl
def sn(hk:P.underlying kt=some (.int .i64))(l:List (Int×ad×Nat))(k:Int):xx P kt (.ae k) (yB l)=some (tX l k 0):=by unfold xx WB;have hp:bN (.ae k)=true/\fZ (yB l)=true:=⟨rfl,Vy l⟩;simp only[an hp,hk,NY]
def S5(h:xn W r m n)(ht:P.underlying t=some (.map kt e))(hk:P.underlying kt=some (.int .i64)){z:ad}(hz:kG P e=some z)(k:Int):uL P t (.map (some r)) (.ae k) false W=some ((m k).getD z,W):=by
 obtain⟨l,c,hg,hn,hl,hm⟩:=h;unfold uL oB;simp only[ht,hg,wl hk,bi,sn hk];rw[<-hm k,AY l k 0];unfold zU;cases tX l k 0 with
 |none=>simp only[hz];rfl
 |some q=>rfl
def Yh(h:xn W r m n)(ht:P.underlying t=some (.map kt e))(hk:P.underlying kt=some (.int .i64)){z:ad}(hz:kG P e=some z)(k:Int):uL P t (.map (some r)) (.ae k) true W=some (.tuple #[(m k).getD z,.bool (m k).isSome],W):=by
 obtain⟨l,c,hg,hn,hl,hm⟩:=h;unfold uL oB;simp only[ht,hg,wl hk,bi,sn hk];rw[<-hm k,AY l k 0];unfold zU;cases tX l k 0 with
 |none=>simp only[hz];rfl
 |some q=>rfl
def Qo(h:xn W r m n)(ht:P.underlying t=some (.map kt e))(hk:P.underlying kt=some (.int .i64))(k:Int)(v:ad):∃es c,jF P t (.map (some r)) (.ae k) v W=some (ak,W.put r (.map es c))/\xn (W.put r (.map es c)) r (λx=>if x=k then some v else m x) (if(m k).isSome then n else n+1):=by
 obtain⟨l,c,hg,hn,hl,hm⟩:=h;have Xe:m k=(tX l k 0).map (·.2):=by rw[<-hm k,AY l k 0]
 cases hf:tX l k 0 with
 |none=>
  obtain⟨h1,h2⟩:=A1 hf;rw[hf]at Xe;refine⟨yB (l++[(k,v,c)]),c+1,?_,l++[(k,v,c)],c+1,AW.aW _ _ _,?_,?_,λx=>by rw[h2,hm]⟩
  ·unfold jF jI;simp only[ht,hg,wl hk,bi,sn hk,hf,dq];unfold yB;rw[qX];rfl
  ·unfold mO at h1 hn|-;rw[qX,Bt];refine⟨hn,by simp,λa ha b hb hab=>?_⟩;simp only[mc,mY,ki]at hb;subst hb;subst hab;exact h1 ha
  ·rw[Xe];simp[hl]
 |some q=>
  obtain⟨j,v0⟩:=q;obtain⟨_,⟨b,h2,h3⟩,-,-,-,h7⟩:=A4 hn hf;rw[xH]at h2 h3 h7;rw[hf]at Xe;refine⟨yB (l.set j (k,v,b)),c,?_,l.set j (k,v,b),c,AW.aW _ _ _,by rw[h7];exact hn,by rw[Xe];simp[hl],λx=>by rw[h3,hm]⟩;have he:(yB l)[j]? =some {key:=.ae k,val:=v0,born:=b}:=by unfold yB;rw[ly,h2];rfl
  have hs:Instr.sameBits 10000 (.ae k) (.ae k)=true:=by unfold Instr.sameBits;simp
  have pP:bN (.ae k)=true:=rfl;unfold jF jI;simp only[ht,hg,wl hk,bi,sn hk,hf,dq,he,hs,pP,kE];unfold yB;rw[List.map_set]
def abE(h:xn W r m n)(ht:P.underlying t=some (.map kt e))(hk:P.underlying kt=some (.int .i64))(ts:List ag)(k:Int):∃es c,uA P W (t::ts).toArray (.map (some r)) (.ae k)=some (W.put r (.map es c))/\xn (W.put r (.map es c)) r (λx=>if x=k then none else m x) (if(m k).isSome then n-1 else n):=by
 obtain⟨l,c,hg,hn,hl,hm⟩:=h;have Xe:m k=(tX l k 0).map (·.2):=by rw[<-hm k,AY l k 0]
 cases hf:tX l k 0 with
 |none=>
  obtain⟨h1,-⟩:=A1 hf;rw[hf]at Xe;refine⟨yB l,c,?_,l,c,AW.aW _ _ _,hn,by rw[Xe];simp[hl],λx=>?_⟩
  ·unfold uA;simp only[ht,hg,wl hk,bi,sn hk,hf]
  ·show ME l x=if x=k then none else m x
   by_cases hx:x=k
   ·rw[an hx,hx,RA h1]
   ·rw[aq hx,hm]
 |some q=>obtain⟨j,v0⟩:=q;obtain⟨_,-,h4,h5,h6,-⟩:=A4 hn hf;rw[xH]at h4 h5 h6;rw[hf]at Xe;refine⟨yB (l.eraseIdx j),c,?_,l.eraseIdx j,c,AW.aW _ _ _,h5,by rw[Xe];simp;omega,λx=>by rw[h4,hm]⟩;unfold uA;simp only[ht,hg,wl hk,bi,sn hk,hf];unfold yB;rw[Ra]
def Sb:xn (W.add (.map [] 0)) W.next (λ_=>none) 0:=⟨[],0,AW.aL _ _,by simp[mO],rfl,λk=>rfl⟩
def xn.keep{W':AW}(h:xn W r m n)(hg:W'.get r=W.get r):xn W' r m n:=by obtain⟨l,c,h1,h2⟩:=h;exact⟨l,c,hg.trans h1,h2⟩
end
end
end Go.Eng
namespace Go.Eng
open Go Go.RowKit Go.Sort
section
variable [ai]
def sG(zs:List Int)(i:Nat):List Int:=zs.take i++zs.drop (i+1)++[0]
def adI{zs:List Int}{i:Nat}(h:i<zs.length):(sG zs i).length=zs.length:=by unfold sG;simp only[cD,cR,mr,cP,p8];omega
def xY(W:AW)(args:List ad)(r:ad×AW):Prop:=∃b zs i,i<zs.length/\args=[.slice (some ⟨b,0,none⟩) zs.length (eJ+1),.ae (i:Nat),.ae ((i:Int)+1)]/\W.get b=some (.cells (zs.map (Value.int .u32)))/\r=(.slice (some ⟨b,0,none⟩) (zs.length-1) (eJ+1),W.put b (.cells ((sG zs i).map (Value.int .u32))))
def HH:∀{a b:List Int},a.map (Value.int .u32)=b.map (Value.int .u32)->a=b
 |[],[],_=>rfl
 |[],_::_,h=>by simp at h
 |_::_,[],h=>by simp at h
 |x::a,y::b,h=>by simp only[mc,List.cons.injEq,Value.int.injEq,uO]at h;rw[h.1,HH h.2]
def xY.one{W:AW}{r1 r2:ad×AW}{args:List ad}(h1:xY W args r1)(h2:xY W args r2):r1=r2:=by
 obtain⟨b,zs,i,_,rfl,g1,rfl⟩:=h1;obtain⟨b2,zs2,i2,_,e,g2,rfl⟩:=h2;simp only[List.cons.injEq,Value.slice.injEq,iW,Addr.mk.injEq,and_true,Value.int.injEq,uO]at e;obtain⟨⟨rfl,_⟩,e,_⟩:=e;obtain rfl:i=i2:=by omega
 rw[g1]at g2;simp only[iW,dH.cells.injEq]at g2;rw[HH g2]
def Te(F:Nat):Callee:=λf args W=>match f with
 |.func (.func g) fs cs=>(match Nat.beq g F&&(fs.isEmpty&&cs.isEmpty)with
  |true=>open Classical in if h:∃r,xY W args r then some (Classical.choose h)else none
  |false=>none)
 |_=>none
def agz{F:Nat}{W:AW}{r:ad×AW}{args:List ad}(h:xY W args r):Te F (.func (.func F) #[] #[]) args W=some r:=by unfold Te;have hx:∃r,xY W args r:=⟨r,h⟩;simp only[uC,Array.isEmpty_empty,fM,ph hx];rw[(xO hx).one h]
def agt{P:ah}{ng:List Nat}{F:Nat}{fn:iv}{body:bV}(Mn:P.funcs[F]? =some fn)(qC:(fn.name== "runtime.NumGoroutine")=false)(hb:fn.body=some body)
 (agM:∀(blk off cap i:Nat) (zs:List Int) (w:ar),Holds (Value.int .u32) w blk off zs.toArray->zs.length<=cap->cap<=9223372036854775807->i<zs.length->
   Calls P F #[.slice (some ⟨blk,off,none⟩) zs.length cap,.ae (i:Nat),.ae ((i:Int)+1)] w λe w'=>e=.returned (.slice (some ⟨blk,off,none⟩) (zs.length-1) cap)/\∃n,w'=putRow (Value.int .u32) (Sort.ahead w n) blk off (sG zs i).toArray):cl P ng (Te F):=by
 intro f args W v W' h σ w f' cZ hW hG hf db;unfold Te at h;split at h;case h_2=>cases h
 rename_i g fs cs;split at h;case h_2=>cases h
 rename_i QQ;simp only[bA,fo,Bq]at QQ;obtain⟨rfl,rfl,rfl⟩:=QQ;split at h;case isFalse=>cases h
 rename_i hx;injection h with h;have hs:=xO hx;rw[h]at hs;clear h hx;obtain⟨b,zs,i,hi,rfl,hgb,e⟩:=hs;simp only[DL]at e;obtain⟨rfl,rfl⟩:=e;obtain⟨LO,yj,cU,E1,HP,nT,rfl⟩:=hf.mR;cases E1;obtain rfl:yj=#[]:=by have h1:yj.toList.length=0:=HP.1.symm;exact vt.1 (mi.1 h1)
 obtain rfl:cU=#[]:=by have h1:cU.toList.length=0:=nT.1.symm;exact vt.1 (mi.1 h1)
 obtain⟨v',rfl,hv⟩:∃v',cZ=[v',.ae (i:Nat),.ae ((i:Int)+1)]/\VR σ (.slice (some ⟨b,0,none⟩) zs.length (eJ+1)) v':=by
  obtain⟨hl,hv⟩:=db;match cZ,hl with
  |[v',u1,u2],_=>have k1:=hv 1 _ _ rfl rfl;have k2:=hv 2 _ _ rfl rfl;cases k1;cases k2;exact⟨v',rfl,hv 0 _ _ rfl rfl⟩
 obtain⟨sg,CD,hg,rfl,qM⟩:∃(sg:At) (CD:Nat),σ b=some sg/\v'=.slice (some ⟨sg.B,sg.s,none⟩) zs.length CD/\Mf sg 0 zs.length (eJ+1) CD:=by
  have t8:0<zs.length:=by omega
  generalize hl:zs.length=l at hv t8;cases hv with
  |slice a l c c' g h hs hc=>exact⟨g,c',h,rfl,hc⟩
  |dO=>omega
 refine⟨fk Mn qC hb _ w,?_⟩;have e1:(#[]:Array ad)++[Value.slice (some ⟨sg.B,sg.s,none⟩) zs.length CD,.ae (i:Nat),.ae ((i:Int)+1)].toArray++#[]=#[.slice (some ⟨sg.B,sg.s,none⟩) zs.length CD,.ae (i:Nat),.ae ((i:Int)+1)]:=by simp
 rw[e1];obtain⟨cc,t,fr0,k1,k0,k2,k3,k4⟩:=hW.obj b _ _ hgb hg;have n8:sg.s<sg.e:=by rw[fj]at k2;omega
 obtain rfl:=k0 n8;have WK:∀j,(hj:j<zs.length)->cc[sg.s+j]? =some (.int .u32 zs[j]):=λj hj=>by obtain⟨u,u1,u2⟩:=k4 j (.int .u32 zs[j]) (by rw[ly,bJ hj];rfl);cases u2;exact u1
 have hH:Holds (Value.int .u32) w sg.B sg.s zs.toArray:=λj hj=>by
  have hj':j<zs.length:=by simpa using hj
  refine⟨?_,(pw.aoT (hW.obj b _ _ hgb hg) (λ_ hx=>by cases hx) n8 rfl)⟩;unfold World.cell?;simp only[k1,WK j hj',vg];rw[getElem!_pos zs.toArray j hj];simp
 have Hs:zs.length<=CD:=by rcases qM.inv with⟨h,_⟩|⟨_,_,_,h,_⟩<;>omega
 have hcm:CD<=9223372036854775807:=by have:=qM.max.2 (by omega);unfold maxLen at this;omega
 refine pf (show CallsIn Fence.wide 0 P g _ w _ from(uj (n:=0)).2 (agM sg.B sg.s CD i zs w hH Hs hcm hi)) ?_;rintro e w' ⟨rfl,n,rfl⟩;have Ti:(sG zs i).length=zs.length:=adI hi;have alv:∀B,B≠sg.B->(putRow (Value.int .u32) (Sort.ahead w n) sg.B sg.s (sG zs i).toArray).heap[B]? =w.heap[B]? :=λB hB=>by show(w.heap.modify sg.B _)[B]? =_;rw[Ai,aq (bh hB)]
 have vL:(putRow (Value.int .u32) (Sort.ahead w n) sg.B sg.s (sG zs i).toArray).heap[sg.B]? =some (.cells (putCells (Value.int .u32) sg.s (sG zs i).toArray cc) t (0,0)):=by show(w.heap.modify sg.B _)[sg.B]? =_;rw[Ai,an rfl,k1];rfl
 have hpc:∀i',(putCells (Value.int .u32) sg.s (sG zs i).toArray cc)[i']? =(cc[i']?).map λx=>if sg.s<=i'/\i'<sg.s+(sG zs i).toArray.size then Value.int .u32 (sG zs i).toArray[i'-sg.s]! else x:=λi'=>by unfold putCells;rw[Array.getElem?_mapIdx]
 rw[fj]at k2;obtain⟨r1,r2⟩:=hW.write (w':=putRow (Value.int .u32) (Sort.ahead w n) sg.B sg.s (sG zs i).toArray) (cU:=(sG zs i).map (Value.int .u32)) hgb hg (by show(w.heap.modify _ _).size=_;simp) rfl rfl rfl alv k1 vL (by unfold putCells;simp)
  (λi' sf=>by
    rw[hpc];have:¬(sg.s<=i'/\i'<sg.s+(sG zs i).toArray.size):=by rw[xr,Ti];omega
    simp only[this,b9];cases cc[i']? <;>rfl)
  (by rw[fj,Ti];exact k2)
  (λj v hv=>by
    rw[ly]at hv;have hj:j<(sG zs i).length:=by
     rcases qf j (sG zs i).length with h|h
     ·exact h
     ·rw[kn h]at hv;cases hv
    rw[bJ hj]at hv;injection hv with hv;subst hv;refine⟨_,?_,.int _ _⟩;rw[hpc,WK j (by omega)];have:sg.s<=sg.s+j/\sg.s+j<sg.s+(sG zs i).toArray.size:=by rw[xr];omega
    simp only[this,kE,bi,dq,IZ];rw[getElem!_pos (sG zs i).toArray j (by simpa using hj)];simp)
 refine⟨_,rfl,σ,?_,r1,r2⟩;rcases qM.inv with⟨h,_⟩|⟨z,hz,hzz,hlc,BX⟩
 ·omega
 ·exact .slice ⟨b,0,none⟩ _ _ _ sg hg rfl (by rw[hzz];exact .open_ z CD hz (by omega) BX (qM.max.2 (by omega)))
end
end Go.Eng
namespace Go.Proofs.YtmaoneengdafhaaGreatDoor
open Go Go.Eng
def TU:List Int:=[0,1,7,27,7,7,99,67,7,64,11,11,128]
def yu:List ad:=TU.map (Value.int .i64)
def upF(n:Nat):Nat->List Nat:=Nat.rec (motive:=λ_=>Nat->List Nat) (λ_=>[]) (λ_ ih s=>s::ih (s+1)) n
def avZ(l:List (Nat×Nat)):List Nat:=List.rec (motive:=λ_=>List Nat) [] (λp _ ih=>List.rec (motive:=λ_=>List Nat) ih (λa _ r=>a::r) (upF p.2 p.1)) l
def lkF(i:Nat)(l:List (Nat×List Nat)):List Nat:=List.rec (motive:=λ_=>List Nat) [] (λp _ ih=>Bool.rec (motive:=λ_=>List Nat) ih p.2 (Nat.beq p.1 i)) l
def zF(x:List (Nat×List Nat))(o:List Nat):List (Nat×List Nat):=List.rec (motive:=λ_=>List (Nat×List Nat)) [] (λi _ r=>(i,lkF i x)::r) o
abbrev TB:=T (List (Nat×List Nat))
def rS(k n:Nat)(l:List (Nat×Nat))(x:List (Nat×List Nat))(t:TB):TB:=T.set (some (zF x (List.rec (motive:=λ_=>List Nat) (upF n 0) (λ_ _ _=>avZ l) l))) (path k) t
def tab:TB:=rS 65644 0 [(0,4),(6,1),(9,5),(4,2),(7,2),(14,2)] [(4,[13,12]),(8,[13,12])]<|
 rS 557108 8 [] [(5,[1])]<|
 rS 557174 0 [(0,2),(3,1),(2,1),(4,4)] [(2,[3])]<|
 rS 557180 0 [(0,2),(3,1),(2,1),(4,4)] [(2,[3])]<|
 rS 573512 0 [(0,4),(5,5),(4,1),(10,2)] [(4,[9,8])]<|
 rS 577608 0 [(0,2),(3,2),(7,3),(2,1),(5,2),(10,3)] [(2,[9,4]),(5,[9])]<|
 rS 1597483 6 [] [(3,[1])]<|
 rS 1626289 0 [(0,4),(5,5),(11,1),(4,1),(10,1),(12,1)] [(4,[9,8])]<|
 rS 1700185 31 [] [(24,[16,13,10,4]),(25,[4])]<|
 rS 2130136 0 [(0,3),(4,2),(3,1),(6,2)] []<|
 rS 2142405 0 [(0,5),(6,2),(5,1),(8,3)] [(5,[7,6])]<|
 rS 2150610 0 [(0,6),(10,1),(6,4),(11,2)] []<|
 rS 2162906 0 [(0,2),(5,2),(10,2),(2,3),(7,3),(12,4)] [(2,[11,6]),(7,[11])]<|
 rS 2641981 5 [] [(2,[1])]<|
 rS 2662569 0 [(0,2),(3,5),(2,1),(8,2)] [(2,[7,5])]<|
 rS 2711837 22 [] [(15,[10,7,4,1]),(16,[1])]<|
 rS 3162136 4 [] [(2,[1])]<|
 rS 3187091 10 [] [(7,[3,1])]<|
 rS 3191058 0 [(0,7),(8,1),(7,1),(9,2)] [(7,[0])]<|
 rS 3203465 14 [] [(12,[9,6])]<|
 rS 3211520 0 [(0,8),(9,4),(8,1),(13,3)] [(8,[3,1]),(13,[3,1])]<|
 rS 3223951 19 [] [(16,[15,11])]<|
 rS 3699014 0 [(0,1),(2,2),(1,1),(4,3)] [(1,[2])]<|
 rS 3743975 0 [(0,12),(13,2),(16,1),(12,1),(15,1),(17,1)] [(12,[14,3,1])]<|
 rS 4227420 0 [(1,2),(4,1),(6,1),(0,1),(3,1),(5,1),(7,1)] [(0,[2])]<|
 rS 4764061 11 [] [(8,[3])]<|
 rS 5263427 5 [] [(2,[1])]<|
 rS 5292226 12 [] [(7,[5,3]),(9,[5])]<|
 rS 5800390 8 [] [(5,[4])]<|
 rS 5829100 0 [(0,5),(10,2),(5,5),(12,3)] []<|
 rS 5829177 15 [] [(13,[10,6])]<|
 rS 6311989 5 [] [(2,[1])]<|
 rS 6320555 7 [] [(4,[1])]<|
 rS 6345218 0 [(0,6),(7,3),(6,1),(10,3)] [(6,[8,3,1]),(10,[3,1])]<|
 rS 6357288 16 [] [(9,[7,5,3]),(11,[7,5]),(13,[7])]<|
 rS 6869754 13 [] [(10,[8,4])]<|
 rS 6885912 17 [] [(11,[1])]<|
 rS 7373428 8 [] [(6,[3])]<|
 rS 7405976 16 [] [(9,[7,5,3]),(11,[7,5]),(13,[7])]<|
 rS 7463625 30 [] [(24,[4])]<|
 rS 8438266 12 [] [(7,[5,3]),(9,[5])]<|
 rS 8491684 25 [] [(19,[4,0])]<|
 rS 8958634 0 [(0,4),(5,4),(4,1),(9,2)] []<|
 rS 9499393 15 [] [(9,[1])]<|
 rS 11055979 11 [] [(7,[4])]<|
 rS 11059842 12 [] [(7,[5,3]),(9,[5])]<|
 rS 13127778 5 [] [(2,[1])]<|
 rS 13652068 5 [] [(2,[1])]<|
 rS 16269433 4 [] [(2,[1])]<|.lf
def abe:List Int:=[1,10,100,1000,10000,100000,1000000,10000000,100000000,1000000000,10000000000,100000000000,1000000000000,10000000000000,100000000000000,1000000000000000,10000000000000000,100000000000000000,1000000000000000000,10000000000000000000]
def Px:List ad:=abe.map (Value.int .u64)
def ad8:List Int:=[0,1,28,2,29,14,24,3,30,22,20,15,25,17,4,8,31,27,13,23,21,19,16,7,26,12,18,6,11,5,10,9]
def Pb:List ad:=ad8.map (Value.int .u8)
def ad0:List Int:=[0,1,56,2,57,49,28,3,61,58,42,50,38,29,17,4,62,47,59,36,45,43,51,22,53,39,33,30,24,18,12,5,63,55,48,27,60,41,37,16,46,35,44,21,52,32,23,11,54,26,40,15,34,20,31,10,25,14,19,9,13,8,7,6]
def N4:List ad:=ad0.map (Value.int .u8)
def lU:List (Nat×List ad):=[(0,yu),(1,Px),(3,Pb),(4,N4)]
end Go.Proofs.YtmaoneengdafhaaGreatDoor
namespace Go.Eng
open Go
section
variable [ai]
section
variable {P:ah} {W:AW}
def JP{t:ag}{z:Nat}(hz:sH P t=some z)(h0:0<z){b o l h:Nat}{k:be}(h1:h<=l):
 eP P t (.slice (some ⟨b,o,none⟩) l (eJ+z)) none (some (.int k (h:Int))) none W=some (.slice (some ⟨b,o,none⟩) h (eJ+z),W):=by
 obtain⟨e,he,hz⟩:=ti hz;have h2:((⟨b,o,none⟩:bg).add (0*z))=⟨b,o,none⟩:=by rw[dv];simp
 unfold eP mz;simp only[he,hz,ft,kJ,qg,bi,uO,an h0,an h1,xH,h2]
end
end
section
variable [ai]
def ak1(W:AW)(cs:List ad)(b:Nat):aH (W.add (.cells cs)) b=if b=W.next then some cs else aH W b:=by
 by_cases h:b=W.next
 ·subst h;rw[an rfl];exact bC
 ·rw[aq h];unfold aH;rw[W.aG _ (λe=>h e.symm)]
def ajC(W:AW)(c:Nat)(cs:List ad)(b:Nat):aH (W.put c (.cells cs)) b=if b=c then some cs else aH W b:=by
 by_cases h:b=c
 ·subst h;rw[an rfl];exact uR _
 ·rw[aq h];exact An _ (λe=>h e.symm)
def amc(W:AW)(cs:List ad)(b:Nat):aU (W.add (.cells cs)) b=if b=W.next then some cs else aU W b:=by
 by_cases h:b=W.next
 ·subst h;rw[an rfl];exact de
 ·rw[aq h];unfold aU;rw[W.aG _ (λe=>h e.symm)]
def akd(W:AW)(c:Nat)(cs:List ad)(b:Nat):aU (W.put c (.cells cs)) b=if b=c then some cs else aU W b:=by
 by_cases h:b=c
 ·subst h;rw[an rfl];exact bZ _
 ·rw[aq h];exact bQ _ (λe=>h e.symm)
def Zi(W:AW):Le W W=True:=eq_true (Le.refl W)
def acG{W W':AW}(h:Le W W')(o:dH):Le W (W'.add o)=True:=eq_true (h.add o)
def abz{W W':AW}(h:Le W W'){b:Nat}(hb:W.next<=b)(o:dH):Le W (W'.put b o)=True:=eq_true (h.put hb o)
def afW(a:Option bg):one (.pointer a)=true:=aT rfl rfl
def aft{W:AW}{b o:Nat}{x:Option bg}:fm 1 (.pointer (some ⟨b,o,none⟩)) (.pointer x) W=(aU W b).bind λcs=>if o<cs.length then some (ak,W.put b (.cells (cs.set o (.pointer x))))else none:=sj rfl rfl
def Za(cs vs:List ad):ip cs 0 vs=vs++cs.drop vs.length:=by unfold ip;rw[tj,jG,aI]
def ais(b:Bool):sW ak b=false:=aT (by unfold sW ak;rfl) rfl
def HX:=aC @ak1 (aC @ajC (aC @amc (aC @akd (aC @Zi (aC @acG (aC @abz (aC @afW (aC @aft (aC @AW.av (aC @AW.bH (aC @gV (aC @Nat.le_add_right (aC @aR (aC @Nat.add_eq_left (aC @Nat.left_eq_add (aC @Za (aC @jR (aC @b9.{1} (aC @Nat.one_ne_zero (aC @pj (aC @List.take_nil.{0} (aC @uO (aC @and_true (aC @ais @af))))))))))))))))))))))))
end
section
variable [ai]
section
variable {P:ah} {W:AW} {α:Type}
def Fo{ts:Array ag}{z bytes:Nat}(hk:mL P ts z bytes=true){b o n c:Nat}{cs new:List ad}(hc:aH W b=some cs)(hn:new=(cs.drop o).take (n*z))(hl:new.length=n*z)(h0:0<n)(h1:new.all Eng.one=true)
 {a:bg}(hb:n<1099511627776)(lA:(2*n+192)*bytes<=281474976710656):
 dB P W ts (.slice (some a) 0 0) (.slice (some ⟨b,o,none⟩) n c)=some (.slice (some ⟨W.next,0,none⟩) n (eJ+z),W.add (.cells new)):=by
 obtain⟨t,e,zv,k1,k2,k3,k4,k5,k6⟩:=sB hk;have hr:pD W b o (n*z)=some new:=by rw[ka,hc];simp only;rw[an (by rw[<-hn];exact hl),hn]
 have hr1:cp W (.slice (some ⟨b,o,none⟩) n c) (n*z)=some new:=by unfold cp;simp only;rw[aq (by have:=p9 h0 k5;omega),bL];exact hr
 have hr2:cp W (.slice (some a) 0 0) (0*z)=some []:=by unfold cp;simp
 have hB:0<eJ:=by unfold eJ;omega
 have Tr:¬0=eJ+z:=by unfold eJ;omega
 unfold dB;simp only[k1,k2,k3,k4,bi,aI,an (aC k5 (aC k6 (aC hb lA))),aq (show¬n=0 by omega),hr1,hr2,h1,aq Tr,an hB,aq (show¬n<=0 by omega),AW.dU,jG]
def v8{ts:Array ag}{z bytes:Nat}(hk:mL P ts z bytes=true){a a2:Option bg}{l c c2:Nat}(h:l<=c)(hb:l<1099511627776)(lA:(2*l+192)*bytes<=281474976710656):
 dB P W ts (.slice a l c) (.slice a2 0 c2)=some (.slice a l c,W):=by
 obtain⟨t,e,zv,k1,k2,k3,k4,k5,k6⟩:=sB hk;unfold dB;simp only[k1,k2,k3,k4,bi,eQ,an (aC k5 (aC k6 (aC hb lA))),an h]
def K4{f:α->List ad}(h1:∀a,(f a).all one=true):∀l:List α,(l.flatMap f).all one=true
 |[]=>rfl
 |a::l=>by rw[fN,List.all_append,h1 a,K4 h1 l];rfl
def EL(lo:Nat)(W:AW)(z:Nat)(f:α->List ad)(v:ad)(l:List α):Prop:=
 (l=[]/\(v=.slice none 0 0\/∃B,v=.slice (some ⟨B,0,none⟩) 0 0))\/(l≠[]/\∃B c,lo<=B/\B<W.next/\v=.slice (some ⟨B,0,none⟩) l.length c/\(c=eJ+z\/c=l.length)/\W.get B=some (.cells (l.flatMap f)))
def Rd(W:AW)(z:Nat)(f:α->List ad)(v:ad)(l:List α):Prop:=
 ∃a c,v=.slice a l.length c/\(l=[]\/∃b o cs,a=some ⟨b,o,none⟩/\b<W.next/\aH W b=some cs/\(cs.drop o).take (l.length*z)=l.flatMap f)
def EL.anK(lo:Nat)(W:AW)(z:Nat)(f:α->List ad)(B:Nat):EL lo W z f (.slice (some ⟨B,0,none⟩) 0 0) []:=.inl ⟨rfl,.inr ⟨B,rfl⟩⟩
def EL.keep{lo z:Nat}{f:α->List ad}{v:ad}{l:List α}{W':AW}(h:EL lo W z f v l)(hn:W.next<=W'.next)(hg:∀b,lo<=b->b<W.next->W'.get b=W.get b):EL lo W' z f v l:=by
 rcases h with h|⟨h0,B,c,h1,h2,h3,hc,h4⟩
 ·exact .inl h
 ·exact .inr ⟨h0,B,c,h1,by omega,h3,hc,by rw[hg B h1 h2];exact h4⟩
def EL.low{lo Iv z:Nat}{f:α->List ad}{v:ad}{l:List α}(h:EL lo W z f v l)(hl:Iv<=lo):EL Iv W z f v l:=by
 rcases h with h|⟨h0,B,c,h1,h⟩
 ·exact .inl h
 ·exact .inr ⟨h0,B,c,by omega,h⟩
def sO.el{lo z:Nat}{f:α->List ad}{v:ad}{l:List α}(h:sO lo W z f v l):EL lo W z f v l:=by
 rcases h with⟨rfl,rfl⟩|⟨h0,B,h1,h2,h3,h4⟩
 ·exact .inl ⟨rfl,.inl rfl⟩
 ·exact .inr ⟨h0,B,_,h1,h2,h3,.inl rfl,h4⟩
def EL.slice{lo z:Nat}{f:α->List ad}{v:ad}{l:List α}(h:EL lo W z f v l):∃a c,v=.slice a l.length c:=by rcases h with⟨rfl,rfl|⟨B,rfl⟩⟩|⟨_,B,c,_,_,rfl,_⟩<;>exact⟨_,_,rfl⟩
def EL.row{lo z:Nat}{f:α->List ad}{v:ad}{l:List α}{at_:List ad->Nat->α->Prop}(hf:∀a,(f a).length=z)(h:EL lo W z f v l)(vL:∀a pre post,at_ (pre++(f a++post)) pre.length a):Row W z at_ v l:=by
 rcases h with⟨rfl,rfl|⟨B,rfl⟩⟩|⟨h0,B,c,i1,i2,rfl,hc,i4⟩
 ·exact⟨none,0,rfl,.inl rfl⟩
 ·exact⟨_,0,rfl,.inl rfl⟩
 ·refine⟨_,_,rfl,.inr ⟨B,0,_,rfl,i2,ao i4,λi hi=>?_⟩⟩;have e:l.flatMap f=(l.take i).flatMap f++(f l[i]++(l.drop (i+1)).flatMap f):=by rw[<-fN,<-ri hi,<-jo,wX]
  have e2:((l.take i).flatMap f).length=0+i*z:=by rw[cm hf,cR];rw[oN (by omega),aI]
  rw[e,<-e2];exact vL _ _ _
def EL.rd{lo z:Nat}{f:α->List ad}{v:ad}{l:List α}(hf:∀a,(f a).length=z)(h:EL lo W z f v l):Rd W z f v l:=by
 rcases h with⟨rfl,rfl|⟨B,rfl⟩⟩|⟨h0,B,c,i1,i2,rfl,hc,i4⟩
 ·exact⟨none,0,rfl,.inl rfl⟩
 ·exact⟨_,0,rfl,.inl rfl⟩
 ·exact⟨_,_,rfl,.inr ⟨B,0,_,rfl,i2,ao i4,by rw[jB,<-cm hf l,cO]⟩⟩
def Rd.keep{z:Nat}{f:α->List ad}{v:ad}{l:List α}{W':AW}(h:Rd W z f v l)(aM:Le W W'):Rd W' z f v l:=by
 obtain⟨a,c,rfl,h⟩:=h;refine⟨a,c,rfl,?_⟩;rcases h with h|⟨b,o,cs,h1,h2,h3,h4⟩
 ·exact .inl h
 ·exact .inr ⟨b,o,cs,h1,fb h2 aM.next,by unfold aH at h3|-;rw[aM.get b h2];exact h3,h4⟩
section
variable {t:ag} {z lo:Nat} {f:α->List ad} {v:ad} {l:List α} {kk:be} {k:Nat}
def ZS(hf:∀a,(f a).length=z)(l:List α)(k:Nat):(l.flatMap f).take (k*z)=(l.take k).flatMap f:=by
 rcases qf l.length k with h|h
 ·rw[ou (by rw[cm hf];exact mo z (by omega)),ou (by omega)]
 ·have e:l.flatMap f=(l.take k).flatMap f++(l.drop k).flatMap f:=by rw[<-jo,wX]
  have e2:((l.take k).flatMap f).length=k*z:=by rw[cm hf,cR,oN h]
  rw[e,<-e2,xj]
def ZO(hf:∀a,(f a).length=z)(l:List α)(k:Nat):(l.flatMap f).drop (k*z)=(l.drop k).flatMap f:=by
 rcases qf l.length k with h|h
 ·rw[wR (by rw[cm hf];exact mo z (by omega)),wR (by omega)];rfl
 ·have e:l.flatMap f=(l.take k).flatMap f++(l.drop k).flatMap f:=by rw[<-jo,wX]
  have e2:((l.take k).flatMap f).length=k*z:=by rw[cm hf,cR,oN h]
  rw[e,<-e2,xW]
def EL.to(hz:sH P t=some z)(h0:0<z)(hf:∀a,(f a).length=z)(h:EL lo W z f v l)(hk:k<=l.length)(hl:l.length<1099511627776):
 ∃v',(∀W':AW,eP P t v none (some (.int kk (k:Int))) none W'=some (v',W'))/\Rd W z f v' (l.take k):=by
 have dS:(l.take k).length=k:=by rw[cR];omega
 have hB:l.length<eJ:=by unfold eJ;omega
 rcases h with⟨rfl,rfl|⟨B,rfl⟩⟩|⟨h1,B,c,i1,i2,rfl,hc,i4⟩
 ·have:k=0:=by simpa using hk
  subst this;exact⟨_,λ_=>MB hz,none,0,rfl,.inl rfl⟩
 ·have:k=0:=by simpa using hk
  subst this;exact⟨_,λ_=>Fe hz (aR _) (by unfold eJ;omega),_,0,rfl,.inl rfl⟩
 ·have hr:l.take k=[]\/∃b o cs,(some ⟨B,0,none⟩:Option bg)=some ⟨b,o,none⟩/\b<W.next/\aH W b=some cs/\(cs.drop o).take ((l.take k).length*z)=(l.take k).flatMap f:=
   .inr ⟨B,0,_,rfl,i2,ao i4,by rw[jB,dS,ZS hf]⟩
  rcases hc with rfl|rfl
  ·exact⟨_,λ_=>JP hz h0 hk,_,eJ+z,by rw[dS],hr⟩
  ·exact⟨_,λ_=>Fe hz hk hB,_,l.length,by rw[dS],hr⟩
def Hy{t:ag}{z:Nat}(hz:sH P t=some z)(h0:0<z){B l c k:Nat}{kk:be}(hk:k<=l)(hl:l<eJ)(hc:c=eJ+z\/c=l):
 ∃a c',(∀W:AW,eP P t (.slice (some ⟨B,0,none⟩) l c) (some (.int kk (k:Int))) none none W=some (.slice a (l-k) c',W))/\(k<l->a=some ⟨B,k*z,none⟩):=by
 obtain⟨e,he,hz⟩:=ti hz;have h2:((⟨B,0,none⟩:bg).add (k*z))=⟨B,k*z,none⟩:=by rw[dv];simp
 unfold eP mz;rcases hc with rfl|rfl
 ·refine⟨some ⟨B,k*z,none⟩,eJ+z,λW=>?_,λ_=>rfl⟩;simp only[he,hz,ft,kJ,an hk,uO,an h0,aR,bi,h2]
 ·have hb:¬(c=eJ+z/\0<z):=λx=>by omega
  refine⟨some (if c=k then⟨B,0,none⟩else⟨B,k*z,none⟩),c-k,λW=>?_,λh=>by rw[bL]⟩;simp only[he,hz,ft,kJ,an hk,aq hb,an (aC hl (aR c)),h2]
def EL.from(hz:sH P t=some z)(h0:0<z)(hf:∀a,(f a).length=z)(h:EL lo W z f v l)(hk:k<=l.length)(hl:l.length<1099511627776):
 ∃v',(∀W':AW,eP P t v (some (.int kk (k:Int))) none none W'=some (v',W'))/\Rd W z f v' (l.drop k):=by
 have dS:(l.drop k).length=l.length-k:=by rw[mr]
 have hB:l.length<eJ:=by unfold eJ;omega
 rcases h with⟨rfl,rfl|⟨B,rfl⟩⟩|⟨h1,B,c,i1,i2,rfl,hc,i4⟩
 ·have:k=0:=by simpa using hk
  subst this;refine⟨.slice none 0 0,λW'=>?_,none,0,rfl,.inl rfl⟩;obtain⟨e,he,hz⟩:=ti hz;unfold eP mz;simp only[he,hz,ft,kJ,aR,kE,bi,xH]
 ·have:k=0:=by simpa using hk
  subst this;obtain⟨a,c',e1,-⟩:=Hy (P:=P) (B:=B) (kk:=kk) hz h0 (aR 0) (by unfold eJ;omega) (.inr rfl);exact⟨_,e1,a,c',rfl,.inl rfl⟩
 ·obtain⟨a,c',e1,e2⟩:=Hy (P:=P) (B:=B) (kk:=kk) hz h0 hk hB hc;refine⟨_,e1,a,c',by rw[dS],?_⟩;rcases qf k l.length with ya|ya
  ·refine .inr ⟨B,k*z,_,e2 ya,i2,ao i4,?_⟩;rw[ZO hf,<-cm hf,cO]
  ·exact .inl (wR ya)
def EL.app{ts:Array ag}{bytes:Nat}{v2:ad}{l2:List α}(hk:mL P ts z bytes=true)(hf:∀a,(f a).length=z)(h1:∀a,(f a).all one=true)
 (h:EL lo W z f v l)(h2:Rd W z f v2 l2)(hb:l.length+l2.length<1099511627776)(lA:(2*(l.length+l2.length)+192)*bytes<=281474976710656)(zB:lo<=W.next):
 ∃v' W',dB P W ts v v2=some (v',W')/\EL lo W' z f v' (l++l2)/\W.next<=W'.next/\∀b,b<lo->W'.get b=W.get b:=by
 have ZK:0<z:=by obtain⟨t,e,zv,_,_,_,_,k5,_⟩:=sB hk;exact k5
 obtain⟨a,c,rfl,h2⟩:=h2;by_cases he:l2=[]
 ·subst he;rw[fp];have IE:(2*l.length+192)*bytes<=281474976710656:=by simpa using lA
  rcases h with⟨rfl,rfl|⟨B,rfl⟩⟩|⟨Gb,B,c',i1,i2,rfl,hc,i4⟩
  ·exact⟨_,_,v8 hk (aR _) (by simp at hb;omega) (by simpa using IE),.inl ⟨rfl,.inl rfl⟩,aR _,λ_ _=>rfl⟩
  ·exact⟨_,_,v8 hk (aR _) (by simp at hb;omega) (by simpa using IE),.inl ⟨rfl,.inr ⟨B,rfl⟩⟩,aR _,λ_ _=>rfl⟩
  ·exact⟨_,_,v8 hk (by rcases hc with rfl|rfl<;>(try unfold eJ)<;>omega) (by omega) IE,.inr ⟨Gb,B,c',i1,i2,rfl,hc,i4⟩,aR _,λ_ _=>rfl⟩
 ·rcases h2 with h2|⟨b,o,cs,rfl,j1,j2,j3⟩
  ·exact absurd h2 he
  have Xf:0<l2.length:=BF.2 he;have Ue:(l2.flatMap f).length=l2.length*z:=cm hf l2;have ha:=K4 h1 l2;rcases h with⟨rfl,rfl|⟨B,rfl⟩⟩|⟨Gb,B,c',i1,i2,rfl,hc,i4⟩
  ·refine⟨_,_,O5 hk j2 j3.symm Ue Xf ha (by simp at hb;omega) (by simpa using lA),.inr ⟨by simpa using he,W.next,_,zB,by rw[AW.av];omega,by simp,.inl rfl,by rw[AW.aL];simp⟩,by rw[AW.av];omega,λb hb=>AW.aG _ _ (by omega)⟩
  ·refine⟨_,_,Fo hk j2 j3.symm Ue Xf ha (by simp at hb;omega) (by simpa using lA),.inr ⟨by simpa using he,W.next,_,zB,by rw[AW.av];omega,by simp,.inl rfl,by rw[AW.aL];simp⟩,by rw[AW.av];omega,λb hb=>AW.aG _ _ (by omega)⟩
  ·have t8:0<l.length:=BF.2 Gb;rcases hc with rfl|rfl
   ·refine⟨_,_,Vd hk j2 j3.symm Ue Xf ha i4 (cm hf l) hb lA t8,.inr ⟨by simp[Gb],W.next,_,zB,by rw[AW.av,AW.eK];omega,by rw[cD],.inl rfl,?_⟩,by rw[AW.av,AW.eK];omega,λb hb=>?_⟩
    ·have:=(W.kill B).aL (.cells (l.flatMap f++l2.flatMap f));rw[AW.eK]at this;rw[this,jo]
    ·rw[AW.aG _ _ (by rw[AW.eK];omega),AW.dm _ (by omega)]
   ·refine⟨_,_,ahi hk j2 j3.symm Ue Xf ha (ao i4) (cm hf l) hb lA t8,.inr ⟨by simp[Gb],W.next,_,zB,by rw[AW.av];omega,by rw[cD],.inl rfl,by rw[AW.aL,jo]⟩,by rw[AW.av];omega,λb hb=>AW.aG _ _ (by omega)⟩
end
end
def Mx(v:ad):Prop:=(∃b l c,v=.slice (some ⟨b,0,none⟩) l c)\/∃l c,v=.slice none l c
def Mx.one{v:ad}(h:Mx v):one v=true:=by rcases h with⟨b,l,c,rfl⟩|⟨l,c,rfl⟩<;>rfl
def g9{α:Type}(W:AW)(z:Nat)(f:α->List ad)(v:ad)(l:List α)(bo:Option Nat):Prop:=
 (l=[]/\v=.slice none 0 0/\bo=none)\/(l≠[]/\∃B,bo=some B/\B<W.next/\v=.slice (some ⟨B,0,none⟩) l.length (eJ+z)/\W.get B=some (.cells (l.flatMap f)))
def g9.ik{α:Type}{W:AW}{z:Nat}{f:α->List ad}{v:ad}{l:List α}{bo:Option Nat}(h:g9 W z f v l bo):sO 0 W z f v l:=by
 rcases h with⟨h1,h2,-⟩|⟨h0,B,-,h2,h3,h4⟩
 ·exact .inl ⟨h1,h2⟩
 ·exact .inr ⟨h0,B,qg _,h2,h3,h4⟩
def g9.keep{α:Type}{W W':AW}{z:Nat}{f:α->List ad}{v:ad}{l:List α}{bo:Option Nat}(h:g9 W z f v l bo)(hn:W.next<=W'.next)(hg:∀B,bo=some B->W'.get B=W.get B):g9 W' z f v l bo:=by
 rcases h with h|⟨h0,B,h1,h2,h3,h4⟩
 ·exact .inl h
 ·exact .inr ⟨h0,B,h1,by omega,h3,(hg B h1).trans h4⟩
def g9.lt{α:Type}{W:AW}{z:Nat}{f:α->List ad}{v:ad}{l:List α}{bo:Option Nat}(h:g9 W z f v l bo){B:Nat}(hB:bo=some B):B<W.next:=by
 rcases h with⟨-,-,h⟩|⟨h0,B',h1,h2,-⟩
 ·rw[h]at hB;cases hB
 ·rw[h1]at hB;injection hB with hB;omega
def g9.push{α:Type}{P:ah}{W:AW}{ts:Array ag}{z bytes:Nat}{f:α->List ad}{v:ad}{l:List α}{bo:Option Nat}{a:α}(hk:mL P ts z bytes=true)(hf:∀a,(f a).length=z)(h1:∀a,(f a).all one=true)
 (h:g9 W z f v l bo){b c:Nat}(hc:aH W b=some (f a))(hb:l.length+1<1099511627776)(lA:(2*(l.length+1)+192)*bytes<=281474976710656):
 ∃v' W',dB P W ts v (.slice (some ⟨b,0,none⟩) 1 c)=some (v',W')/\g9 W' z f v' (l++[a]) (some W.next)/\W'.next=W.next+1/\∀b,b<W.next->bo≠some b->W'.get b=W.get b:=by
 have hn:f a=((f a).drop 0).take (1*z):=by rw[jB,kv,<-hf a,cO]
 have hl:(f a).length=1*z:=by rw[hf];omega
 rcases h with⟨rfl,rfl,rfl⟩|⟨h0,B,rfl,i2,rfl,i4⟩
 ·refine⟨_,_,O5 (b:=b) (o:=0) (c:=c) hk hc hn hl (by omega) (h1 a) (by omega) (by simpa using lA),.inr ⟨by simp,W.next,rfl,by rw[AW.av];omega,by simp,by rw[AW.aL];simp⟩,AW.av _ _,λd hd _=>AW.aG _ _ (by omega)⟩
 ·have t8:0<l.length:=BF.2 h0;refine⟨_,_,Vd (b:=b) (o:=0) (c:=c) hk hc hn hl (by omega) (h1 a) i4 (cm hf l) (by omega) lA t8,.inr ⟨by simp,W.next,rfl,by rw[AW.av,AW.eK];omega,by simp,?_⟩,by rw[AW.av,AW.eK],λd hd fe=>?_⟩
  ·have:=(W.kill B).aL (.cells (l.flatMap f++f a));rw[AW.eK]at this;rw[this,jo];simp
  ·rw[AW.aG _ _ (by rw[AW.eK];omega),AW.dm _ (λe=>fe (by rw[e]))]
section
variable {P:ah} {W:AW} {α:Type} {t:ag} {z lo:Nat} {f:α->List ad} {v:ad} {l:List α} {kk:be} {k:Nat}
end
def afA{W W':AW}(v:ad):gc W (v,W')=(v,W')\/(gc W (v,W')=(v,W)/\Le W W'/\bN v=true):=by
 unfold gc;split
 ·rename_i h;have:=h.1;simp only[bA]at this;exact .inr ⟨rfl,h.2,this.1⟩
 ·exact .inl rfl
def Hm{o t:Option (ad×AW)}{W:AW}{Q:ad->AW->Prop}(h:Ok t λr=>Q r.1 r.2)(Nq:∀{r},t=some r->o=some (gc W r))(hq:∀v W',Q v W'->Le W W'->bN v=true->Q v W):∃v W',o=some (v,W')/\Q v W':=by
 obtain⟨⟨v,W'⟩,h1,h2⟩:=h;rcases afA (W:=W) (W':=W') v with hg|⟨hg,aM,hp⟩
 ·exact⟨v,W',by rw[Nq h1,hg],h2⟩
 ·exact⟨v,W,by rw[Nq h1,hg],hq v W' h2 aM hp⟩
def acP{P:ah}{W:AW}{t:ag}{x y u:ad}:iP P [(x,some t),(y,none),(u,none)] W=(iU P t x W).bind λr=>some (.tuple #[r.1,y,u],W):=by unfold iP iU;simp only[wg];cases lR P W t x<;>rfl
end
end Go.Eng
namespace Go.Proofs.YtmaoneengdafhaaGreatDoor
structure RunT where
 row:Int
 fi:Int
 ma:Int
def t7(r:Int):Int->List Bool->Int->Int->List RunT
 |_,[],c,m=>if 0<m then [⟨r,c,m⟩]else []
 |s,true::l,c,m=>t7 r (s+1) l c (m+1)
 |s,false::l,c,m=>(if 0<m then [⟨r,c,m⟩]else [])++t7 r (s+1) l (s+1) 0
def BL(n:Int):Int:=if n=1 then 1 else 0
def Eg:List RunT->Int
 |[]=>0
 |x::l=>BL x.ma+Eg l
def BJ:Int->List Bool->Int
 |m,[]=>BL m
 |m,true::l=>BJ (m+1) l
 |m,false::l=>BL m+BJ 0 l
def Iy(a b:List RunT):Eg (a++b)=Eg a+Eg b:=by
 induction a with
 |nil=>simp[Eg]
 |cons x l ih=>simp only[pb,Eg,ih];omega
def Wi{r c m:Int}(h:0<=m):Eg (if 0<m then [⟨r,c,m⟩]else [])=BL m:=by
 by_cases h2:0<m
 ·rw[an h2];simp only[Eg];omega
 ·rw[aq h2,show m=0 by omega];rfl
def P2{r:Int}:∀(l:List Bool) (s c m:Int),0<=m->Eg (t7 r s l c m)=BJ m l
 |[],s,c,m,h=>by simp only[t7,BJ];exact Wi h
 |true::l,s,c,m,h=>by simp only[t7,BJ];exact P2 l _ _ _ (by omega)
 |false::l,s,c,m,h=>by simp only[t7,BJ,Iy,Wi h,P2 l _ _ 0 (by omega)]
def BC:∀(a c:List Bool) (m:Int),BJ m (a++false::c)=BJ m a+BJ 0 c
 |[],c,m=>by simp only[jG,BJ]
 |true::a,c,m=>by simp only[pb,BJ];exact BC a c _
 |false::a,c,m=>by simp only[pb,BJ,BC a c];omega
def IC:∀(k:Nat) (l:List Bool) (m:Int),BJ m (List.replicate k true++l)=BJ (m+k) l
 |0,l,m=>by simp
 |k+1,l,m=>by rw[uU,pb];simp only[BJ];rw[IC k l (m+1)];congr 1;omega
def agT(a:List Bool):Prop:=a=[]\/∃b,a=b++[false]
def afw(c:List Bool):Prop:=c=[]\/∃b,c=false::b
def WY{a:List Bool}(h:agT a)(x:List Bool):BJ 0 (a++x)=BJ 0 a+BJ 0 x:=by
 rcases h with h|⟨b,h⟩
 ·subst h;simp[BJ,BL]
 ·subst h;rw[iK,List.singleton_append,BC,BC];simp[BJ,BL]
def Xd{c:List Bool}(h:afw c)(m:Int):BJ m c=BL m+BJ 0 c:=by
 rcases h with h|⟨b,h⟩
 ·subst h;simp[BJ,BL]
 ·subst h;simp[BJ,BL]
def af2{a c:List Bool}(ha:agT a)(hc:afw c)(m:Nat):BJ 0 (a++(List.replicate m true++c))=BJ 0 a+BL m+BJ 0 c:=by rw[WY ha,IC,Xd hc];simp only[Int.zero_add];omega
def aht{a c:List Bool}(ha:agT a)(hc:afw c)(b n d:Nat)(hn:0<n):BJ 0 (a++(List.replicate b true++(List.replicate n false++(List.replicate d true++c))))=BJ 0 a+BL b+BL d+BJ 0 c:=by
 rw[WY ha,IC];have h:∀(n:Nat) (x:List Bool) (m:Int),0<n->BJ m (List.replicate n false++x)=BL m+BJ 0 x:=by
  intro n;induction n with
  |zero=>intro x m h;omega
  |succ n ih=>
   intro x m _;rw[uU,pb];simp only[BJ];by_cases h0:0<n
   ·rw[ih x 0 h0];simp[BL]
   ·rw[show n=0 by omega];simp
 rw[h n _ _ hn,IC,Xd hc];simp only[Int.zero_add];omega
def Lh{r:Int}:∀(l:List Bool) (s:Int) (m:Nat) (x:RunT),x∈t7 r s l (s-m) m->∃(a c:List Bool) (k:Nat),0<k/\x.ma=k/\x.row=r/\x.fi=s-m+a.length/\agT a/\afw c/\List.replicate m true++l=a++(List.replicate k true++c)
 |[],s,m,x,h=>by
  simp only[t7]at h;by_cases h2:(0:Int)<m
  ·rw[an h2]at h;have:=ki.mp h;subst this;exact⟨[],[],m,by omega,rfl,rfl,by simp,Or.inl rfl,Or.inl rfl,by simp⟩
  ·rw[aq h2]at h;cases h
 |true::l,s,m,x,h=>by
  simp only[t7]at h;have h2:x∈t7 r (s+1) l (s+1-((m+1:Nat):Int)) ((m+1:Nat):Int):=by rw[show s+1-((m+1:Nat):Int)=s-m by omega,show((m+1:Nat):Int)=(m:Int)+1 by omega];exact h
  obtain⟨a,c,k,e1,e2,e3,e4,e5,e6,e7⟩:=Lh l (s+1) (m+1) x h2;refine⟨a,c,k,e1,e2,e3,by omega,e5,e6,?_⟩;rw[<-e7,List.replicate_succ',iK];rfl
 |false::l,s,m,x,h=>by
  simp only[t7]at h;rcases mj.mp h with h|h
  ·by_cases h2:(0:Int)<m
   ·rw[an h2]at h;have:=ki.mp h;subst this;exact⟨[],false::l,m,by omega,rfl,rfl,by simp,Or.inl rfl,Or.inr ⟨l,rfl⟩,by simp⟩
   ·rw[aq h2]at h;cases h
  ·have h2:x∈t7 r (s+1) l (s+1-((0:Nat):Int)) ((0:Nat):Int):=by rw[show s+1-((0:Nat):Int)=s+1 by omega];exact h
   obtain⟨a,c,k,e1,e2,e3,e4,e5,e6,e7⟩:=Lh l (s+1) 0 x h2;simp only[List.replicate_zero,jG]at e7;refine⟨List.replicate m true++false::a,c,k,e1,e2,e3,?_,?_,e6,?_⟩
   ·rw[cD,mh,cP,e4];omega
   ·rcases e5 with e5|⟨b,e5⟩
    ·subst e5;exact Or.inr ⟨List.replicate m true,rfl⟩
    ·subst e5;exact Or.inr ⟨List.replicate m true++false::b,by simp⟩
   ·rw[e7];simp
def uQ(l:List Bool)(f m:Nat):List Bool:=(l.drop f).take m
def H8(l:List Bool)(i n:Nat):List Bool:=l.mapIdx λj b=>if i<=j/\j<i+n then false else b
def rm(l:List Bool):Nat->Nat->List Nat->List RunT
 |_,_,[]=>[]
 |r,f,m::t=>t7 r f (uQ l f m) f 0++rm l (r+1) (f+m) t
def I3(l:List Bool)(i n:Nat):(H8 l i n).length=l.length:=by simp[H8]
def BE(l:List Bool)(i n j:Nat):(H8 l i n)[j]? =(l[j]?).map λb=>if i<=j/\j<i+n then false else b:=by simp[H8]
def D5(l:List Bool)(f m j:Nat):(uQ l f m)[j]? =if j<m then l[f+j]? else none:=by
 unfold uQ;rw[lY];split
 ·rw[qZ]
 ·rfl
def WR{l:List Bool}{f m i n:Nat}(h:f+m<=i\/i+n<=f):uQ (H8 l i n) f m=uQ l f m:=by
 apply oi;intro j;rw[D5,D5];split
 ·rw[BE];have e:¬(i<=f+j/\f+j<i+n):=by omega
  simp only[aq e];cases l[f+j]? <;>rfl
 ·rfl
def ak2(l:List Bool)(f m j n:Nat):uQ (H8 l (f+j) n) f m=H8 (uQ l f m) j n:=by
 apply oi;intro k;rw[D5,BE,BE,D5];split
 ·congr 1;funext b;by_cases h:j<=k/\k<j+n
  ·rw[an h,kH]
  ·rw[aq h,bL]
 ·rfl
def Tz(l:List Bool)(f m:Nat):(uQ l f m).length<=m:=by unfold uQ;rw[cR];exact Nat.min_le_left _ _
def agW(a b:List Bool)(i n:Nat):H8 (a++b) i n=H8 a i n++b.mapIdx λj x=>if i<=a.length+j/\a.length+j<i+n then false else x:=by unfold H8;rw[List.mapIdx_append];congr 1;congr 1;funext j x;rw[Nat.add_comm j]
def zD{l:List Bool}{f:Nat->Bool->Bool}(h:∀j b,j<l.length->f j b=b):l.mapIdx f=l:=by
 apply oi;intro j;rw[List.getElem?_mapIdx];by_cases hj:j<l.length
 ·rw[bJ hj];simp[h j _ hj]
 ·rw[kn (by omega)];rfl
def OZ{l:List Bool}{f:Nat->Bool->Bool}(h:∀j b,j<l.length->f j b=false):l.mapIdx f=List.replicate l.length false:=by
 apply oi;intro j;rw[List.getElem?_mapIdx,List.getElem?_replicate];by_cases hj:j<l.length
 ·rw[bJ hj,an hj];simp[h j _ hj]
 ·rw[kn (by omega),aq hj];rfl
def agh{a c:List Bool}{K k n:Nat}(h:k+n<=K):H8 (a++(List.replicate K true++c)) (a.length+k) n=a++(List.replicate k true++(List.replicate n false++(List.replicate (K-n-k) true++c))):=by
 have e:List.replicate K true=List.replicate k true++(List.replicate n true++List.replicate (K-n-k) true):=by rw[List.replicate_append_replicate,List.replicate_append_replicate];congr 1;omega
 rw[e,agW];have e1:H8 a (a.length+k) n=a:=zD λj b hj=>bL
 rw[e1];congr 1;rw[iK,iK,List.mapIdx_append,List.mapIdx_append];rw[zD (l:=List.replicate k true) λj b hj=>aq (by rw[mh]at hj;omega)];rw[OZ (l:=List.replicate n true) λj b hj=>an (by rw[mh]at *;omega)];rw[zD (l:=List.replicate (K-n-k) true++c) λj b hj=>aq (by rw[mh,mh];omega),mh]
def G3{l:List Bool}{i n:Nat}:∀(ms:List Nat) (r f:Nat),i+n<=f->rm (H8 l i n) r f ms=rm l r f ms
 |[],r,f,h=>rfl
 |m::t,r,f,h=>by simp only[rm];rw[WR (Or.inr h),G3 t _ _ (by omega)]
def Xb{l:List Bool}:∀(ms:List Nat) (r f:Nat) (x:RunT),x∈rm l r f ms->(f:Int)<=x.fi/\0<x.ma
 |[],r,f,x,h=>by cases h
 |m::t,r,f,x,h=>by
  simp only[rm]at h;rcases mj.mp h with h|h
  ·obtain⟨a,c,k,e1,e2,e3,e4,-,-,-⟩:=Lh (uQ l f m) f 0 x (by rw[show(f:Int)-((0:Nat):Int)=f by omega];exact h);omega
  ·have:=Xb t _ _ x h;omega
def Ly{l:List Bool}{n:Nat}(hn:0<n):∀(ms:List Nat) (r f:Nat) (x:RunT) (k i:Nat),x∈rm l r f ms->(k:Int)+n<=x.ma->(i:Int)=x.fi+k->
 Eg (rm (H8 l i n) r f ms)=Eg (rm l r f ms)+(BL k+BL (x.ma-n-k)-BL x.ma)
 |[],r,f,x,k,i,h,_,_=>by cases h
 |m::t,r,f,x,k,i,h,hk,hi=>by
  simp only[rm]at h|-;rw[Iy,Iy];rcases mj.mp h with h|h
  ·obtain⟨a,c,K,e1,e2,e3,e4,e5,e6,e7⟩:=Lh (uQ l f m) f 0 x (by rw[show(f:Int)-((0:Nat):Int)=f by omega];exact h);simp only[List.replicate_zero,jG]at e7;have hl:=Tz l f m;rw[e7,cD,cD,mh]at hl;have ei:i=f+(a.length+k):=by omega
   rw[G3 t _ _ (by omega),P2 _ _ _ _ (rQ _),P2 _ _ _ _ (rQ _),ei,ak2,e7,agh (by omega),af2 e5 e6,aht e5 e6 _ _ _ hn,e2];rw[show((K-n-k:Nat):Int)=(K:Int)-n-k by omega];omega
  ·have zB:=Xb t _ _ x h;rw[WR (Or.inl (by omega)),Ly hn t _ _ x k i h hk hi];omega
end Go.Proofs.YtmaoneengdafhaaGreatDoor
namespace Go.Eng
open Go
section
variable [ai]
section
variable {P:ah} {W:AW} {r:Nat} {m:Int->Option ad} {n:Nat} {t kt e:ag}
def FC(l:List (Int×ad×Nat)):List MapEntry:=l.map λp=>{key:=.int .u32 p.1,val:=p.2.1,born:=p.2.2}
def OC(l:List (Int×ad×Nat))(k:Int):∀i,Instr.findNow (.int .u32) (.int .u32 k) (FC l) i=some (tX l k i):=by
 induction l with
 |nil=>intro i;rfl
 |cons p l ih=>
  intro i;show(match Instr.sameNow (.int .u32) (.int .u32 k) (.int .u32 p.1)with|some true=>some (some (i,p.2.1))|some false=>Instr.findNow (.int .u32) (.int .u32 k) (FC l) (i+1)|none=>none)=_;unfold tX;by_cases h:k=p.1
  ·have:Instr.sameNow (.int .u32) (.int .u32 k) (.int .u32 p.1)=some true:=by simp[Instr.sameNow,h]
   rw[this,an h]
  ·have:Instr.sameNow (.int .u32) (.int .u32 k) (.int .u32 p.1)=some false:=by simp[Instr.sameNow,h]
   rw[this,aq h];exact ih (i+1)
def abR(W:AW)(r:Nat)(m:Int->Option ad)(n:Nat):Prop:=∃l c,W.get r=some (.map (FC l) c)/\(mO l).Nodup/\l.length=n/\∀k,ME l k=m k
def UA(l:List (Int×ad×Nat)):fZ (FC l)=true:=by unfold fZ FC;rw[List.all_map,dd];intro p _;rfl
def J6(hk:P.underlying kt=some (.int .u32))(empty:Bool)(k:Int):vX P empty kt (.int .u32 k)=true:=by
 unfold vX;have:cH P (Instr.checkKey empty 10000 kt (.int .u32 k))=some ():=by unfold Instr.checkKey;simp only[gl,fw hk,bM];rfl
 rw[this];rfl
def FW(hk:P.underlying kt=some (.int .u32))(l:List (Int×ad×Nat))(k:Int):xx P kt (.int .u32 k) (FC l)=some (tX l k 0):=by unfold xx WB;have hp:bN (.int .u32 k)=true/\fZ (FC l)=true:=⟨rfl,UA l⟩;simp only[an hp,hk,OC]
def acZ(h:abR W r m n)(ht:P.underlying t=some (.map kt e))(hk:P.underlying kt=some (.int .u32)){z:ad}(hz:kG P e=some z)(k:Int):uL P t (.map (some r)) (.int .u32 k) false W=some ((m k).getD z,W):=by
 obtain⟨l,c,hg,hn,hl,hm⟩:=h;unfold uL oB;simp only[ht,hg,J6 hk,bi,FW hk];rw[<-hm k,AY l k 0];unfold zU;cases tX l k 0 with
 |none=>simp only[hz];rfl
 |some q=>rfl
def aap(h:abR W r m n)(ht:P.underlying t=some (.map kt e))(hk:P.underlying kt=some (.int .u32))(k:Int)(v:ad):∃es c,jF P t (.map (some r)) (.int .u32 k) v W=some (ak,W.put r (.map es c))/\abR (W.put r (.map es c)) r (λx=>if x=k then some v else m x) (if(m k).isSome then n else n+1):=by
 obtain⟨l,c,hg,hn,hl,hm⟩:=h;have Xe:m k=(tX l k 0).map (·.2):=by rw[<-hm k,AY l k 0]
 cases hf:tX l k 0 with
 |none=>
  obtain⟨h1,h2⟩:=A1 hf;rw[hf]at Xe;refine⟨FC (l++[(k,v,c)]),c+1,?_,l++[(k,v,c)],c+1,AW.aW _ _ _,?_,?_,λx=>by rw[h2,hm]⟩
  ·unfold jF jI;simp only[ht,hg,J6 hk,bi,FW hk,hf,dq];unfold FC;rw[qX];rfl
  ·unfold mO at h1 hn|-;rw[qX,Bt];refine⟨hn,by simp,λa ha b hb hab=>?_⟩;simp only[mc,mY,ki]at hb;subst hb;subst hab;exact h1 ha
  ·rw[Xe];simp[hl]
 |some q=>
  obtain⟨j,v0⟩:=q;obtain⟨_,⟨b,h2,h3⟩,-,-,-,h7⟩:=A4 hn hf;rw[xH]at h2 h3 h7;rw[hf]at Xe;refine⟨FC (l.set j (k,v,b)),c,?_,l.set j (k,v,b),c,AW.aW _ _ _,by rw[h7];exact hn,by rw[Xe];simp[hl],λx=>by rw[h3,hm]⟩;have he:(FC l)[j]? =some {key:=.int .u32 k,val:=v0,born:=b}:=by unfold FC;rw[ly,h2];rfl
  have hs:Instr.sameBits 10000 (.int .u32 k) (.int .u32 k)=true:=by unfold Instr.sameBits;simp
  have pP:bN (.int .u32 k)=true:=rfl;unfold jF jI;simp only[ht,hg,J6 hk,bi,FW hk,hf,dq,he,hs,pP,kE];unfold FC;rw[List.map_set]
def abn:abR (W.add (.map [] 0)) W.next (λ_=>none) 0:=⟨[],0,AW.aL _ _,by simp[mO],rfl,λk=>rfl⟩
end
end
end Go.Eng
namespace Go.Eng
open Go Go.RowKit
section
variable [ai]
def aaW(P:ah)(bG:Nat):Nat->List wx->Bool
 |off,[]=>off==bG
 |off,f::fs=>f.offset==off&&aaW P bG (off+P.cellsOf f.type) fs
def Yl(P:ah):Nat->ag->Bool
 |0,_=>false
 |n+1,t=>match P.underlying t with
  |some .bool=>true
  |some (.int _)=>true
  |some .string=>true
  |some (.struct fs)=>aaW P (P.cellsOf t) 0 fs.toList&&fs.toList.all λf=>Yl P n f.type
  |some (.slice e)=>decide (0<P.cellsOf e)&&Yl P n e
  |_=>false
def Eb(g:ag->List ad->Prop):List ag->List ad->Prop
 |[],cs=>cs=[]
 |t::ts,cs=>∃c1 c2,cs=c1++c2/\g t c1/\Eb g ts c2
def Eb.imp{g g':ag->List ad->Prop}(h:∀t cs,g t cs->g' t cs):∀{ts:List ag} {cs:List ad},Eb g ts cs->Eb g' ts cs
 |[],_,hc=>hc
 |_::_,_,⟨c1,c2,e,h1,h2⟩=>⟨c1,c2,e,h _ _ h1,Eb.imp h h2⟩
def DR(P:ah)(W:AW):Nat->ag->List ad->Prop
 |0,_,_=>False
 |n+1,t,cs=>match P.underlying t with
  |some .bool=>∃b,cs=[.bool b]
  |some (.int k)=>∃m,cs=[.int k m]/\k.min<=m/\m<=k.max
  |some .string=>∃s:ByteArray,cs=[.string s]/\s.size<9223372036854775808
  |some (.struct fs)=>Eb (DR P W n) (fs.toList.map (·.type)) cs
  |some (.slice e)=>∃a len cap,cs=[.slice a len cap]/\len<=cap/\cap<eJ/\(a=none\/∃b,a=some ⟨b,0,none⟩)/\(len=0\/∃(b:Nat) (l:List (List ad)),a=some ⟨b,0,none⟩/\b<W.next/\aH W b=some l.flatten/\l.length=len/\∀c∈l,c.length=P.cellsOf e/\DR P W n e c)
  |_=>False
def DR.mono{P:ah}{W W':AW}(aM:Le W W'):∀{n:Nat} {t:ag} {cs:List ad},DR P W n t cs->DR P W' n t cs:=by
 intro n;induction n with
 |zero=>intro t cs h;exact h.elim
 |succ n ih=>
  intro t cs h;unfold DR at h|-;split at h
  ·exact h
  ·exact h
  ·exact h
  ·exact Eb.imp (λt cs h=>ih h) h
  ·obtain⟨a,len,cap,e1,e2,e3,e3',h⟩:=h;refine⟨a,len,cap,e1,e2,e3,e3',?_⟩;rcases h with h|⟨b,l,e4,e5,e6,e7,h⟩
   ·exact .inl h
   ·exact .inr ⟨b,l,e4,fb e5 aM.next,(aM.aH e5).trans e6,e7,λc hc=>⟨(h c hc).1,ih (h c hc).2⟩⟩
  ·exact h
structure nh (σ:dx) (W:AW) (w:ar):Prop where
 rel:bI σ W w.heap
 ro:Ny σ W
 some_:∃b g,σ b=some g
def nh.add{σ:dx}{W:AW}{w:ar}(h:nh σ W w){B s:Nat}{cs:List ad}{c:Array ad}{t:ag}{fr:Nat×Nat}(hB:w.heap[B]? =some (.cells c t fr))
 (hc:∀(i:Nat) (v:ad),cs[i]? =some v->∃v',c[s+i]? =some v'/\VR σ v v'):
 nh (cx σ W.next ⟨B,s,s+cs.length⟩) (W.add (.ro cs)) w/\Sub σ (cx σ W.next ⟨B,s,s+cs.length⟩):=by
 have E1:=h.rel.fresh;have hs:Sub σ (cx σ W.next ⟨B,s,s+cs.length⟩):=dT E1;have mC:B<w.heap.size:=(eS.1 hB).1;have fe:∀{x:Nat},x≠W.next->(W.add (.ro cs)).get x=W.get x:=λhx=>W.aG _ (bh hx)
 have sS:∀x g,cx σ W.next ⟨B,s,s+cs.length⟩ x=some g->(x=W.next/\g=⟨B,s,s+cs.length⟩)\/(x≠W.next/\σ x=some g):=λx g hc=>by
  unfold cx at hc;split at hc
  ·rename_i hx;injection hc with hc;exact .inl ⟨hx,hc.symm⟩
  ·rename_i hx;exact .inr ⟨hx,hc⟩
 have uN:Ny (cx σ W.next ⟨B,s,s+cs.length⟩) (W.add (.ro cs)):=by
  intro x g hx;rcases sS x g hx with⟨rfl,rfl⟩|⟨h1,h2⟩
  ·exact⟨cs,AW.aL _ _⟩
  ·obtain⟨cU,nT⟩:=h.ro x g h2;exact⟨cU,by rw[fe h1];exact nT⟩
 refine⟨⟨⟨?_,?_,?_,?_⟩,uN,?_⟩,hs⟩
 ·intro x hx;rw[AW.av]at hx;rw[fe (by omega)];exact h.rel.free x (by omega)
 ·intro x g hx;rw[AW.av];rcases sS x g hx with⟨rfl,rfl⟩|⟨_,h2⟩
  ·exact⟨by omega,mC⟩
  ·have:=h.rel.qP x g h2;exact⟨by omega,this.2⟩
 ·intro x o g hx hk;rcases sS x g hk with⟨rfl,rfl⟩|⟨h1,h2⟩
  ·rw[AW.aL]at hx;injection hx with hx;subst hx;exact⟨c,t,fr,hB,aR _,λi v hv=>let⟨v',a,b⟩:=hc i v hv;⟨v',a,b.mono hs⟩⟩
  ·rw[fe h1]at hx;exact(h.rel.obj x o g hx h2).mono hs
 ·intro b1 b2 o1 o2 g1 g2 Qd h1 h2 k1 k2 hr;obtain⟨c1,e1⟩:=uN b1 g1 k1;obtain⟨c2,e2⟩:=uN b2 g2 k2;rw[h1]at e1;rw[h2]at e2;injection e1 with e1;injection e2 with e2;subst e1;subst e2;simp[rw_]at hr
 ·obtain⟨b,g,hb⟩:=h.some_;exact⟨b,g,hs b g hb⟩
def NK{w:ar}{base:Nat}{a:bg}{n:Nat}{cs:List ad}(h:w.cells? base a n=some cs)(hn:0<n):∃c t fr,w.heap[a.block]? =some (.cells c t fr)/\a.spot=none/\cs.length=n/\∀i,i<n->c[a.off+i]? =cs[i]? :=by
 unfold World.cells? at h;split at h;case isFalse=>cases h
 have hl:=mapM_some_length h;rw[Ei]at hl;have hg:∀i,i<n->w.cell? (a.add i)=cs[i]? :=λi hi=>mapM_some_get h i i (by simp[hi])
 have h0:=hg 0 hn;have e0:a.add 0=a:=by simp[Addr.add]
 rw[e0,bJ (by omega)]at h0;unfold World.cell? at h0;split at h0;case h_2=>cases h0
 rename_i c t fr hh;split at h0;case isTrue=>cases h0
 rename_i wN;refine⟨c,t,fr,hh,by simpa using wN,hl,λi hi=>?_⟩;rw[<-hg i hi];unfold World.cell?;have eb:(a.add i).block=a.block:=by unfold Addr.add;split<;>rfl
 have eo:(a.add i).off=a.off+i:=by unfold Addr.add;split<;>simp_all
 have es:(a.add i).spot=none:=by unfold Addr.add;split<;>simp_all
 rw[eb,hh];simp only[es,eo,vg,gY,b9]
section
variable {H:Type} {enc:ag×ad->H} {P:ah} {w:ar}
def adz(P:ah)(w:ar)(n:Nat)(t:ag)(cU:List ad):Prop:=∀σ W,nh σ W w->∃σ2 W2 cs,nh σ2 W2 w/\Sub σ σ2/\Le W W2/\LR σ2 cs cU/\DR P W2 n t cs
def DD{n:Nat}{bG:Nat}{cU:List ad}(hl:cU.length=bG):∀{fs:List wx} {off:Nat},aaW P bG off fs=true->(∀f∈fs,adz P w n f.type ((cU.drop f.offset).take (P.cellsOf f.type)))->
 ∀σ W,nh σ W w->∃σ2 W2 cs,nh σ2 W2 w/\Sub σ σ2/\Le W W2/\LR σ2 cs (cU.drop off)/\Eb (DR P W2 n) (fs.map (·.type)) cs
 |[],off,h,_,σ,W,ho=>by unfold aaW at h;have:=uw.1 h;refine⟨σ,W,[],ho,.refl _,.refl _,?_,rfl⟩;rw[wR (by omega)];exact .nil
 |f::fs,off,h,hf,σ,W,ho=>by
  unfold aaW at h;simp only[bA]at h;have Ja:=uw.1 h.1;obtain⟨σ1,W1,c1,o1,s1,l1,r1,a1⟩:=hf f (by simp) σ W ho;obtain⟨σ2,W2,c2,o2,s2,l2,r2,a2⟩:=DD hl h.2 (λg hg=>hf g (by simp[hg])) σ1 W1 o1;refine⟨σ2,W2,c1++c2,o2,s1.trans s2,l1.trans l2,?_,c1,c2,rfl,a1.mono l2,a2⟩;rw[Ja]at r1;have e:cU.drop off=(cU.drop off).take (P.cellsOf f.type)++cU.drop (off+P.cellsOf f.type):=by rw[<-xF,wX]
  rw[e];exact(r1.mono s2).append r2
def Km{n z:Nat}{e:ag}:∀{LL:List (List ad)},(∀c∈LL,c.length=z/\adz P w n e c)->
 ∀σ W,nh σ W w->∃(σ2:dx) (W2:AW) (l:List (List ad)),nh σ2 W2 w/\Sub σ σ2/\Le W W2/\LR σ2 l.flatten LL.flatten/\l.length=LL.length/\∀c∈l,c.length=z/\DR P W2 n e c
 |[],_,σ,W,ho=>⟨σ,W,[],ho,.refl _,.refl _,.nil,rfl,by simp⟩
 |c0::LL,h,σ,W,ho=>by
  obtain⟨σ1,W1,c1,o1,s1,l1,r1,a1⟩:=(h c0 (by simp)).2 σ W ho;obtain⟨σ2,W2,l,o2,s2,l2,r2,e2,a2⟩:=Km (LL:=LL) (λc hc=>h c (by simp[hc])) σ1 W1 o1;refine⟨σ2,W2,c1::l,o2,s1.trans s2,l1.trans l2,?_,by simp[e2],?_⟩
  ·rw[List.flatten_cons,List.flatten_cons];exact(r1.mono s2).append r2
  ·intro c hc;rcases eU.1 hc with rfl|hc
   ·exact⟨by rw[r1.1];exact(h c0 (by simp)).1,a1.mono l2⟩
   ·exact a2 c hc
def Rg(L:List ad)(o z:Nat):∀n,((List.range n).map λi=>(L.drop (o+i*z)).take z).flatten=(L.drop o).take (n*z)
 |0=>by simp
 |n+1=>by rw[qW,qX,List.flatten_append,Rg L o z n,Nat.succ_mul,List.take_add,xF];simp
def Jg:∀{n m:Nat} {t:ag} {cU:List ad} {x:cq H×List eB},Yl P n t=true->DataW.trod enc P w 0 (λ_=>true) true m t cU=some x->adz P w n t cU:=by
 intro n;induction n with
 |zero=>intro m t cU x h;cases h
 |succ n ih=>
  intro m t cU x h hx σ W ho;unfold Yl at h;split at h
  ·rename_i ht;obtain⟨b,rfl,_⟩:=DataW.trod_bool ht hx;exact⟨σ,W,[.bool b],ho,.refl _,.refl _,.cons (.bool b) .nil,by unfold DR;rw[ht];exact⟨b,rfl⟩⟩
  ·rename_i k ht;obtain⟨z,rfl,_,hwf⟩:=DataW.trod_int ht hx;simp only[Lit.wf,bA,iA]at hwf;exact⟨σ,W,[.int k z],ho,.refl _,.refl _,.cons (.int k z) .nil,by unfold DR;rw[ht];exact⟨z,rfl,hwf⟩⟩
  ·rename_i ht;obtain⟨s,rfl,_,hs⟩:=DataW.trod_string ht hx;exact⟨σ,W,[.string s],ho,.refl _,.refl _,.cons (.string s) .nil,by unfold DR;rw[ht];exact⟨s,rfl,by unfold maxLen at hs;omega⟩⟩
  ·rename_i fs ht;simp only[bA,dd]at h;obtain⟨xs,m',_,_,hl,dS,hf⟩:=DataW.trod_struct ht hx;have:=DD (P:=P) (w:=w) (n:=n) hl h.1 (λf hfm=>by
    obtain⟨i,hi,rfl⟩:=By hfm;have hi2:i<fs.size:=by simpa using hi
    have h1:=hf i fs[i] (by rw[jN hi2]);rw[bJ (by omega)]at h1;have e:fs.toList[i]=fs[i]:=by simp
    rw[e];exact ih (by rw[<-e];exact h.2 _ hfm) h1) σ W ho;obtain⟨σ2,W2,cs,o2,s2,l2,r2,a2⟩:=this;rw[jB]at r2;exact⟨σ2,W2,cs,o2,s2,l2,r2,by unfold DR;rw[ht];exact a2⟩
  ·rename_i e ht;simp only[bA,iA]at h;obtain⟨hz,n8⟩:=h;have mk:∀{W2:AW} {a:Option bg} {len cap:Nat},len<=cap->cap<eJ->(a=none\/∃b,a=some ⟨b,0,none⟩)->(len=0\/∃(b:Nat) (l:List (List ad)),a=some ⟨b,0,none⟩/\b<W2.next/\aH W2 b=some l.flatten/\l.length=len/\∀c∈l,c.length=P.cellsOf e/\DR P W2 n e c)->DR P W2 (n+1) t [.slice a len cap]:=λh1 h2 Ft h3=>by unfold DR;rw[ht];exact⟨_,_,_,rfl,h1,h2,Ft,h3⟩
   rcases DataW.trod_slice ht hx with⟨rfl,_⟩|⟨a,len,cap,axn,ks,m',_,rfl,_,_,hlc,qM,hel,aM,wN,_⟩
   ·exact⟨σ,W,[.slice none 0 0],ho,.refl _,.refl _,.cons (.J5 0 0) .nil,mk (aR _) (by unfold eJ;omega) (.inl rfl) (.inl rfl)⟩
   obtain⟨FH,Sa⟩:=wN rfl;have aio:cap<eJ:=by unfold maxLen at qM;unfold eJ;omega
   by_cases hc0:cap=0
   ·obtain rfl:len=0:=by omega
    subst hc0;obtain⟨b,g,hg⟩:=ho.some_;exact⟨σ,W,[.slice (some ⟨b,0,none⟩) 0 0],ho,.refl _,.refl _,.cons (.dO ⟨b,0,none⟩ a 0 g hg (.inl rfl)) .nil,mk (aR _) (by unfold eJ;omega) (.inr ⟨b,rfl⟩) (.inl rfl)⟩
   ·
    have yz:∀i,i<cap->∃ci,w.cells? 0 (a.add (i*P.cellsOf e)) (P.cellsOf e)=some ci/\∃x,DataW.trod enc P w 0 (λ_=>true) true m' e ci=some x:=by
     intro i hi;by_cases hil:i<len
     ·have h1:=aM i hil;rw[bJ (by omega)]at h1;obtain⟨ci,h2,h3⟩:=Option.bind_eq_some_iff.1 h1;exact⟨ci,h2,_,h3⟩
     ·have h1:=Sa (i-len) (by omega);rw[bJ (by omega),show len+(i-len)=i by omega]at h1;obtain⟨ci,h2,h3⟩:=Option.bind_eq_some_iff.1 h1;exact⟨ci,h2,_,h3⟩
    obtain⟨c0,ao5,_⟩:=yz 0 (by omega);have ea0:a.add (0*P.cellsOf e)=a:=by simp[Addr.add]
    rw[ea0]at ao5;obtain⟨c,tt,fr,hB,aiq,_,_⟩:=NK ao5 hz;have hci:∀i,i<cap->∃x,((c.toList.drop (a.off+i*P.cellsOf e)).take (P.cellsOf e)).length=P.cellsOf e/\DataW.trod enc P w 0 (λ_=>true) true m' e ((c.toList.drop (a.off+i*P.cellsOf e)).take (P.cellsOf e))=some x:=by
     intro i hi;obtain⟨ci,h1,x,h2⟩:=yz i hi;obtain⟨c2,t2,fr2,Tr,_,C0,rJ⟩:=NK h1 hz;have eb:(a.add (i*P.cellsOf e)).block=a.block:=by unfold Addr.add;split<;>rfl
     have eo:(a.add (i*P.cellsOf e)).off=a.off+i*P.cellsOf e:=by unfold Addr.add;split<;>simp_all
     rw[eb,hB]at Tr;injection Tr with Tr;injection Tr with Tr;subst Tr;rw[eo]at rJ;have ec:(c.toList.drop (a.off+i*P.cellsOf e)).take (P.cellsOf e)=ci:=by
      apply oi;intro j;by_cases hj:j<P.cellsOf e
      ·rw[lY,an hj,qZ,xR];exact rJ j hj
      ·rw[lY,aq hj,kn (by omega)]
     rw[ec];exact⟨x,C0,h2⟩
    obtain⟨σ1,W1,l,o1,s1,l1,r1,e1,a1⟩:=Km (P:=P) (w:=w) (n:=n) (z:=P.cellsOf e) (e:=e) (LL:=(List.range len).map λi=>(c.toList.drop (a.off+i*P.cellsOf e)).take (P.cellsOf e)) (λci hm=>by
     obtain⟨i,hi,rfl⟩:=mB.1 hm;rw[pL]at hi;obtain⟨x,h1,h2⟩:=hci i (by omega);exact⟨h1,ih n8 h2⟩) σ W ho;rw[Rg]at r1;rw[fj,Ei]at e1;obtain⟨o2,s2⟩:=o1.add (s:=a.off) (cs:=l.flatten) hB (λi v hv=>by
     obtain⟨v',hv',hr⟩:=r1.get hv;refine⟨v',?_,hr⟩;rw[lY]at hv';split at hv'
     ·rw[qZ,xR]at hv';exact hv'
     ·cases hv');have lw:Le W1 (W1.add (.ro l.flatten)):=(Le.refl W1).add _;have ev:(⟨a.block,a.off+0,none⟩:bg)=a:=by
     obtain⟨b,o,s⟩:=a;simp only at aiq;subst aiq;rfl
    have hv:VR (cx σ1 W1.next ⟨a.block,a.off,a.off+l.flatten.length⟩) (.slice (some ⟨W1.next,0,none⟩) len cap) (.slice (some ⟨a.block,a.off+0,none⟩) len cap):=
     .slice ⟨W1.next,0,none⟩ len cap cap ⟨a.block,a.off,a.off+l.flatten.length⟩ dM rfl (.known cap aio)
    rw[ev]at hv;refine⟨_,_,[.slice (some ⟨W1.next,0,none⟩) len cap],o2,s1.trans s2,l1.trans lw,.cons hv .nil,mk hlc aio (.inr ⟨W1.next,rfl⟩) (.inr ⟨W1.next,l,rfl,by rw[AW.av];omega,JX (W1.aL _),e1,λci hm=>⟨(a1 ci hm).1,(a1 ci hm).2.mono lw⟩⟩)⟩
  ·cases h
end
end
end Go.Eng
namespace Go.Eng
open Go Go.RowKit Go.ChangeShapes Go.WideShapes
section
variable [ai]
section
variable {P:ah} {W:AW} {α:Type}
def DR.int{n:Nat}{t:ag}{cs:List ad}{k:be}(h:DR P W (n+1) t cs)(ht:P.underlying t=some (.int k)):∃m,cs=[.int k m]:=by unfold DR at h;rw[ht]at h;obtain⟨m,h,_⟩:=h;exact⟨m,h⟩
def DR.str{n:Nat}{t:ag}{cs:List ad}(h:DR P W (n+1) t cs)(ht:P.underlying t=some .string):∃s:ByteArray,cs=[.string s]/\s.size<9223372036854775808:=by unfold DR at h;rw[ht]at h;exact h
def DR.struct{n:Nat}{t:ag}{cs:List ad}{fs:Array wx}(h:DR P W (n+1) t cs)(ht:P.underlying t=some (.struct fs)):Eb (DR P W n) (fs.toList.map (·.type)) cs:=by unfold DR at h;rw[ht]at h;exact h
def DR.slice{n:Nat}{t e:ag}{cs:List ad}(h:DR P W (n+1) t cs)(ht:P.underlying t=some (.slice e)):
 ∃a len cap,cs=[.slice a len cap]/\len<=cap/\cap<eJ/\(len=0\/∃(b:Nat) (l:List (List ad)),a=some ⟨b,0,none⟩/\b<W.next/\aH W b=some l.flatten/\l.length=len/\∀c∈l,c.length=P.cellsOf e/\DR P W n e c):=by
 unfold DR at h;rw[ht]at h;obtain⟨a,len,cap,h1,h2,h3,_,h4⟩:=h;exact⟨a,len,cap,h1,h2,h3,h4⟩
def DR.akW{n:Nat}{t e:ag}{cs:List ad}(h:DR P W (n+1) t cs)(ht:P.underlying t=some (.slice e)):
 ∃a len cap,cs=[.slice a len cap]/\len<=cap/\cap<eJ/\(a=none\/∃b,a=some ⟨b,0,none⟩)/\(len=0\/∃(b:Nat) (l:List (List ad)),a=some ⟨b,0,none⟩/\b<W.next/\aH W b=some l.flatten/\l.length=len/\∀c∈l,c.length=P.cellsOf e/\DR P W n e c):=by
 unfold DR at h;rw[ht]at h;exact h
def RD{z:Nat}{at_:List ad->Nat->α->Prop}:∀{l:List (List ad)},(∀c∈l,c.length=z/\∃x:α,∀pre post,at_ (pre++(c++post)) pre.length x)->∀pre:List ad,
 ∃xs:List α,xs.length=l.length/\∀i (h:i<xs.length),at_ (pre++l.flatten) (pre.length+i*z) xs[i]
 |[],_,_=>⟨[],rfl,λi h=>by simp at h⟩
 |c::l,hc,pre=>by
  obtain⟨hz,x,hx⟩:=hc c (by simp);obtain⟨xs,h1,h2⟩:=RD (l:=l) (λd hd=>hc d (by simp[hd])) (pre++c);refine⟨x::xs,by simp[h1],λi h=>?_⟩;rw[List.flatten_cons];match i with
  |0=>simpa using hx pre l.flatten
  |i+1=>have:=h2 i (by simpa using h);rw[cD,hz,iK]at this;rw[List.getElem_cons_succ,Nat.succ_mul,Nat.add_comm (i*z) z,<-gV];exact this
def anY{α:Type}(W:AW)(z:Nat)(at_:List ad->Nat->α->Prop)(v:ad)(l:List α):Prop:=Row W z at_ v l/\(∃a c,v=.slice a l.length c/\l.length<=c/\c<eJ/\(l≠[]->∃b o,a=some ⟨b,o,none⟩))
def DR.row{n:Nat}{t e:ag}{cs:List ad}(h:DR P W (n+1) t cs)(ht:P.underlying t=some (.slice e)){at_:List ad->Nat->α->Prop}
 (vL:∀c,c.length=P.cellsOf e->DR P W n e c->∃x:α,∀pre post,at_ (pre++(c++post)) pre.length x):∃v l,cs=[v]/\anY W (P.cellsOf e) at_ v l:=by
 obtain⟨a,len,cap,rfl,h1,h2,h3⟩:=h.slice ht;rcases h3 with rfl|⟨b,l,rfl,h4,h5,rfl,h6⟩
 ·exact⟨_,[],rfl,⟨a,cap,rfl,.inl rfl⟩,a,cap,rfl,h1,h2,λh=>absurd rfl h⟩
 ·obtain⟨xs,e1,e2⟩:=RD (z:=P.cellsOf e) (at_:=at_) (l:=l) (λc hc=>⟨(h6 c hc).1,vL c (h6 c hc).1 (h6 c hc).2⟩) [];refine⟨_,xs,rfl,⟨_,cap,by rw[e1],.inr ⟨b,0,l.flatten,rfl,h4,h5,λi hi=>?_⟩⟩,_,cap,by rw[e1],by omega,h2,λ_=>⟨b,0,rfl⟩⟩;have:=e2 i hi;simpa using this
def DR.ints{n:Nat}{t e:ag}{cs:List ad}{k:be}(h:DR P W (n+2) t cs)(ht:P.underlying t=some (.slice e))(he:P.underlying e=some (.int k))(hz:P.cellsOf e=1):∃v l,cs=[v]/\anY W 1 (Lw k) v l:=by have:=h.row ht (at_:=Lw k) (λc _ hc=>by obtain⟨m,rfl⟩:=hc.int he;refine⟨m,λpre post=>?_⟩;unfold Lw;rw[sU (by omega)];simp);rwa [hz]at this
def Eb.nil{g:ag->List ad->Prop}{cs:List ad}(h:Eb g [] cs):cs=[]:=h
def Eb.cons{g:ag->List ad->Prop}{t:ag}{ts:List ag}{cs:List ad}(h:Eb g (t::ts) cs):∃c1 c2,cs=c1++c2/\g t c1/\Eb g ts c2:=h
end
section
variable {H:Type} {enc:ag×ad->H} {P:ah} {w w':ar} {base:Nat} {adi:Nat->Bool} {held:Bool}
def eG.same{p:eB}(hq:eG w w')(hp:p.block<w.heap.size):w.sameAt w' p:=by
 cases p with
 |cell b off=>exact World.cell?_of_block (a:=⟨b,off,none⟩) (hq.block b hp)
 |map b=>exact hq.block b hp
def eG.trodAll(hq:eG w w'):∀{ts:List ag} {vs:List ad} {ds:List (cq H)} {ps:List eB},DataW.TrodAll enc P w base adi held ts vs ds ps->DataW.TrodAll enc P w' base adi held ts vs ds ps
 |[],[],[],_,h=>h
 |_::_,_::_,_::_,_,⟨p,q,⟨n,h1⟩,h2,e⟩=>⟨p,q,⟨n,DataW.trod_carry n _ _ _ h1 (λx hx=>hq.same (DataW.trod_lt n _ _ _ h1 x hx))⟩,hq.trodAll h2,e⟩
def YJ{f:iv}{s:ChangeSpec}{args:Array ad}{ds gs:List (cq H)}{rt:List eB}{T:ag->Prop}(K:Kids P T)(hz:∀t e,T t->P.underlying t=some (.slice e)->0<P.cellsOf e)(hT:∀t∈f.params.toList,T t)
 (hW:DataW.Whole enc P f.params.toList s.vars false w args.toList ds gs rt)(hq:eG w w')(hv:s.vars=[])(Mn:s.fn H ds={results:=[.lit (.bool true)],args:=ds}){t:ag}(hr:f.resultTypes=#[t])(ht:P.underlying t=some .bool):
 s.post enc P f false true false false w args (.bool true) w':=by
 have hW':=hW;obtain⟨p,q,hA,hV,rfl,_,_⟩:=hW;rw[hv]at hV;obtain⟨rfl,rfl⟩:=trodVars_none hV;have mC:=hA.lt;refine⟨ds,[],p++[],[],p,[],hW',?_,?_,?_,hq.grown.frame _,λh=>by cases h⟩
 ·rw[hr,fp,Mn];exact trodAll_cons_mk (shut_bool ht _) trodAll_mk0
 ·rw[fp,Mn];exact hq.trodAll (hA.respare K hz hT (λx hx=>by simpa using mC x hx))
 ·rw[hv,fp,Mn];exact rfl
end
end
end Go.Eng
namespace Go.Eng
open Go
@[reducible] noncomputable def WH (D:Nat->Array am->Option (List (Nat×List Nat))) (ng:List Nat) (ex:ag->Bool:=λ_=>false):ai where
 D:=D
 ex:=ex
 ng:=ng
 Fr:=T ad
 KM:=λR t=>(T.get (path t) R).getD ak
 acT:=λR t v=>T.set (some v) (path t) R
 blank:=.lf
 oQ:=λR t v=>by rw[T.oQ];rfl
 iE:=λR t u v h=>by rw[T.iE _ _ _ _ (AL h)]
 Gs:=λt=>by rw[T.E3];rfl
end Go.Eng
