/- A part: contracts and laws. -/
import Derived.Test.YtmaoneengdafhaaGreatDoorPartA
import Derived.LoopNIn
import Derived.RangeFuncRecord
import Derived.RowKit3
import Derived.ProofKit
import Derived.OpenShut
import Derived.Maps.RangeWalk
import Derived.Orders
import Derived.RowKit
import Derived.Sort.Grow
import Derived.ChangeArms
import Derived.ReadAgain
set_option linter.unusedVariables false
set_option linter.unusedSimpArgs false
set_option linter.unusedSectionVars false
set_option linter.defProp false
noncomputable section
open Go renaming Act->bw,Addr->bg,Code->bU,DataW->cp,Deferred->eh,Exit->dx,Field->wi,Func->iC,FuncId->jU,IntKind->be,MemPlace->di,Oper->am,Operand->au,Program->ag,TypeId->af,Value->ad,World->ar,undef->aj
namespace Go.Eng
open Go
section
variable [ai]
inductive X where
 |normal|exit (id:Nat)|ret
def X.to:X->dx
 |.normal=>.normal
 |.exit id=>.exit id
 |.ret=>.ret
def X.jump:X->Option bU
 |.normal=>none
 |.exit id=>some (.exit id)
 |.ret=>some .ret
def mL(body:ai.Fr->AW->Option (X×ai.Fr×AW)):Nat->ai.Fr->AW->Option (X×ai.Fr×AW)
 |0,_,_=>none
 |n+1,R,W=>match body R W with
  |some (.normal,R',W')=>mL body n R' W'
  |r=>r
def cz(P:ag)(call:Callee)(top:Bool)(nt:Nat):bU->ai.Fr->AW->Option (X×ai.Fr×AW)
 |.skip,R,W=>some (.normal,R,W)
 |.label _,R,W=>some (.normal,R,W)
 |.region id ops Ft,R,W=>
  match Ft with
  |false=>(tI P call ops ops.toList R W).map λr=>(.normal,r.1,r.2)
  |true=>match ai.D id ops with
   |none=>(tI P call ops ops.toList R W).map λr=>(.normal,r.1,r.2)
   |some pl=>(mO P call ops pl R W).map λr=>(.normal,r.1,r.2)
 |.seq a b,R,W=>match cz P call top nt a R W with
  |some (.normal,R',W')=>cz P call top nt b R' W'
  |r=>r
 |.cond c a b,R,W=>match aF R c with
  |.bool true=>cz P call top nt a R W
  |.bool false=>cz P call top nt b R W
  |_=>none
 |.block id b,R,W=>match cz P call top nt b R W with
  |some (.exit i,R',W')=>if i=id then some (.normal,R',W')else some (.exit i,R',W')
  |r=>r
 |.loop b,R,W=>mL (cz P call top nt b) 1000000 R W
 |.rangeFunc f ps aC4 bd,R,W=>
  match top with
  |false=>none
  |true=>match aF R f with
   |.func (.func i) fs cs=>W.new (.loop .ready none R nt ps aC4 bd) λl W1=>
    match call (.func (.func i) fs cs) [.func (.yield l) #[] #[]] W1 with
    |some (_,W2)=>match W2.get l with
     |some (.loop st qU _ _ _ _ _)=>(match st with
      |.busy=>none
      |_=>match qU with
       |none=>some (.normal,R,W2.kill l)
       |some (.exit i)=>some (.exit i,R,W2.kill l)
       |some .ret=>some (.ret,R,W2.kill l)
       |_=>none)
     |_=>none
    |none=>none
   |_=>none
 |.exit id,R,W=>some (.exit id,R,W)
 |.ret,R,W=>some (.ret,R,W)
 |.goto _,_,_=>none
 |.scope _,_,_=>none
 |.refuse _,_,_=>none
def uA(n0:Nat)(σ:dz)(w:ar):List eh->Prop
 |[]=>True
 |d::ds=>(∃r,d={target:=.collected r,args:=#[]}/\n0<=r/\w.heap[r]? =some (.deferred (some []))/\(∀b g,σ b=some g->g.B≠r)/\
  ∀d'∈ds,∀r',d'.target=.collected r'->r'≠r)/\uA n0 σ w ds
section
variable {P:ag} {σ σ':dz} {W W':AW} {w w':ar} {n0:Nat}
def uA.ext(he:fT σ W w σ' W' w'):∀{ds:List eh},uA n0 σ w ds->uA n0 σ' w' ds:=by
 intro ds;induction ds with
 |nil=>intro _;trivial
 |cons d ds ih=>
  rintro⟨⟨r,h1,h2,h3,h4,h5⟩,hds⟩;have hr:r<w.heap.size:=(eV.1 h3).1;have hm:¬Mut σ W r:=by rintro⟨b,g,hg,e,_⟩;exact h4 b g hg e
  refine⟨⟨r,h1,h2,(he.keep r hr hm).trans h3,λb g hg e=>?_,h5⟩,ih hds⟩;rcases he.grow b g hg (by omega)with h|h
  ·exact h4 b g h e
  ·rw[e]at h;exact hm h
def bI.push(h:bI σ W w.heap)(x:Obj)(hx:∀c t fr,x≠ .cells c t fr):bI σ W (w.heap.push x)/\fT σ W w σ W {w with heap:=w.heap.push x}:=by
 have gH:∀B,B<w.heap.size->(w.heap.push x)[B]? =w.heap[B]? :=λB hB=>by rw[xS];rw[bM]
 refine⟨⟨h.free,λb g hg=>?_,λb o g hb hg=>(h.obj b o g hb hg).same (gH _ (h.qL b g hg).2),h.vF⟩,
  ⟨.refl _,λ_ _ h=>h,by simp,rfl,rfl,rfl,λB hB _=>gH B hB,λ_ _ h k=>⟨h,k⟩,λb g hg _=>.inl hg⟩⟩
 ·have:=h.qL b g hg;simp;omega
def bI.other(h:bI σ W w.heap){r:Nat}(hr:∀b g,σ b=some g->g.B≠r)(x:Obj):bI σ W (w.heap.setIfInBounds r x):=by
 refine⟨h.free,λb g hg=>?_,λb o g hb hg=>(h.obj b o g hb hg).same ?_,h.vF⟩
 ·have:=h.qL b g hg;simpa using this
 ·rw[E1 (bc (hr b g hg))]
def MD(ops:Array am):(List.range ops.size).filterMap (λi=>ops[i]?)=ops.toList:=by
 have h1:(List.range ops.size).filterMap (λi=>ops[i]?)=(List.range ops.size).map λi=>ops.getD i default:=by
  have key:∀l:List Nat,(∀i∈l,i<ops.size)->l.filterMap (λi=>ops[i]?)=l.map λi=>ops.getD i default:=by
   intro l;induction l with
   |nil=>intro _;rfl
   |cons i l ih=>intro h;have hi:i<ops.size:=h i (by simp);simp only[List.filterMap_cons,lj,jK hi];rw[ih λj hj=>h j (by simp[hj])];simp[hi]
  exact key _ λi hi=>by simpa using hi
 rw[h1];refine oJ λi=>?_
 simp only[jJ,xj];by_cases hi:i<ops.size
 ·rw[IG hi];simp[hi]
 ·rw[kF (by simpa using hi)];simp[hi]
def akM{ng:List Nat}{nt:Nat}{call:Callee}(hc:cl P ng call){ops:Array am}(mQ:∀(i:Nat) (o:am),ops[i]? =some o->oH nt ng o=true){ro:Option Nat}{Q:dx->bw->ar->Prop}{Rf:ai.Fr}{Wf:AW}:
 ∀(l:List Nat) (σ:dz) (R:ai.Fr) (W:AW) (a:bw) (w:ar),(∀i∈l,i<ops.size)->bI σ W w.heap->BC σ ng->fz nt σ R a.tmps->
  tI P call ops (l.filterMap λi=>ops[i]?) R W=some (Rf,Wf)->
  (∀σ' a' w',fz nt σ' Rf a'.tmps->a'.defers=a.defers->bI σ' Wf w'.heap->fT σ W w σ' Wf w'->Q .normal a' w')->wpOpsIn (FE ro) 0 P ops Q l a w:=by
 intro l;induction l with
 |nil=>intro σ R W a w _ hW hG hR h hQ;injection h with h;injection h with h1 h2;subst h1;subst h2;exact hQ σ a w hR rfl hW (.refl _ _ _)
 |cons i l ih=>
  intro σ R W a w hl hW hG hR h hQ;have hi:i<ops.size:=hl i (by simp);have hg:ops[i]? =some ops[i]:=jK hi;simp only[List.filterMap_cons,hg,tI]at h;split at h;case h_2=>cases h
  rename_i R' W' hs;have Hb:∀t∈(ops[i]).looksAt ops,VR σ (dy R t) (a.tmps.getD t aj):=λt ht=>hR.2 t (P6 mQ hg ht)
  have hρ:=xX hG (mQ _ _ hg) Hb;have hwe:=FM Hb;simp only[wpOpsIn,hg,hwe];unfold nN at hs;split at hs
  ·rename_i hw;rw[an hw];split at hs
   ·rename_i v W1 vd;injection hs with hs;injection hs with H3 Cd;subst H3;subst Cd;refine NS hc hW hG vd hρ λσ' v' w' hv hw' he=>?_
    exact ih σ' _ _ _ w' (λj hj=>hl j (by simp[hj])) hw' (hG.mono he.sub) ((hR.mono he.sub).put _ hv) h
     (λOL a' w'' k1 k2 k3 k4=>hQ OL a' w'' k1 (by rw[k2,tC]) k3 (he.trans k4))
   ·cases hs
  ·rename_i hw;rw[ap hw];injection hs with hs;injection hs with H3 Cd;subst H3;subst Cd
   exact⟨λf _=>trivial,ih σ _ _ _ w (λj hj=>hl j (by simp[hj])) hW hG (hR.put _ .undef) h
    (λOL a' w'' k1 k2 k3 k4=>hQ OL a' w'' k1 (by rw[k2,tC]) k3 k4)⟩
end
end
section
variable [ai]
section
variable {P:ag}
def CB{x:X}{R':ai.Fr}{W':AW}{y:Option (ai.Fr×AW)}(h:(y.map λr=>((X.normal,r.1,r.2):X×ai.Fr×AW))=some (x,R',W')):x=.normal/\y=some (R',W'):=by
 cases y with
 |none=>cases h
 |some r=>simp only[dA,jd,DK]at h;obtain⟨h1,h2,h3⟩:=h;exact⟨h1.symm,by rw[<-h2,<-h3]⟩
def aia(P:ag)(ng:List Nat)(nt n0:Nat)(ro:Option Nat)(c:bU)(x:X)(R:ai.Fr)(W:AW)(R':ai.Fr)(W':AW):Prop:=
 ∀(σ:dz) (a:bw) (w:ar) (Q:dx->bw->ar->Prop),bI σ W w.heap->BC σ ng->fz nt σ R a.tmps->uA n0 σ w a.defers->n0<=w.heap.size->
  (∀σ' a' w',fz nt σ' R' a'.tmps->uA n0 σ' w' a'.defers->bI σ' W' w'.heap->fT σ W w σ' W' w'->Q x.to a' w')->c.wpIn (FE ro) 0 P Q a w
def Wd{x:X}(hx:x≠ .normal){N:bw->ar->Prop}{Q:dx->bw->ar->Prop}{a:bw}{w:ar}(h:Q x.to a w):Exit.then N Q x.to a w:=by
 cases x with
 |normal=>exact absurd rfl hx
 |exit id=>exact h
 |ret=>exact h
def Q2{x:X}{id:Nat}{Q:dx->bw->ar->Prop}{a:bw}{w:ar}(h:(match x with|.exit i=>if i=id then Q .normal a w else Q (.exit i) a w|x=>Q x.to a w)):Exit.inBlock id Q x.to a w:=by
 cases x with
 |normal=>exact h
 |exit i=>exact h
 |ret=>exact h
def acp{ng:List Nat}{nt n0:Nat}{ro:Option Nat}{b:bU}{body:ai.Fr->AW->Option (X×ai.Fr×AW)}(hb:∀x R W R' W',body R W=some (x,R',W')->aia P ng nt n0 ro b x R W R' W'):
 ∀(m:Nat) (x:X) (R:ai.Fr) (W:AW) (R':ai.Fr) (W':AW),mL body m R W=some (x,R',W')->x≠ .normal/\∀(σ:dz) (a:bw) (w:ar) (Q:dx->bw->ar->Prop),bI σ W w.heap->BC σ ng->fz nt σ R a.tmps->uA n0 σ w a.defers->n0<=w.heap.size->
  (∀σ' a' w',fz nt σ' R' a'.tmps->uA n0 σ' w' a'.defers->bI σ' W' w'.heap->fT σ W w σ' W' w'->Q x.to a' w')->Code.roundsIn (FE ro) 0 P b Q m a w:=by
 intro m;induction m with
 |zero=>intro x R W R' W' h;cases h
 |succ m ih=>
  intro x R W R' W' h;unfold mL at h;split at h
  ·rename_i R1 W1 h1;obtain⟨hx,ao4⟩:=ih x R1 W1 R' W' h;refine⟨hx,λσ a w Q hW hG hR hM hn hQ=>?_⟩;refine hb _ _ _ _ _ h1 σ a w _ hW hG hR hM hn λσ1 a1 w1 k1 k2 k3 k4=>?_
   exact ao4 σ1 a1 w1 Q k3 (hG.mono k4.sub) k1 k2 (eS hn k4.size) λσ2 a2 w2 g1 g2 g3 g4=>hQ σ2 a2 w2 g1 g2 g3 (k4.trans g4)
  ·rename_i fp;have hx:x≠ .normal:=by rintro rfl;exact fp R' W' h
   refine⟨hx,λσ a w Q hW hG hR hM hn hQ=>?_⟩;exact hb _ _ _ _ _ h σ a w _ hW hG hR hM hn λσ1 a1 w1 k1 k2 k3 k4=>Wd hx (hQ σ1 a1 w1 k1 k2 k3 k4)
def y7(hm:P.follows .mixedOrders=true){ng:List Nat}{nt n0:Nat}(VQ:ng=ai.ng){call:Callee}(hc:cl P ng call){top:Bool}{ro:Option Nat}(uK:top=true->ro=none):
 ∀(c:bU),ku nt ng c=true->∀(x:X) (R:ai.Fr) (W:AW) (R':ai.Fr) (W':AW),cz P call top nt c R W=some (x,R',W')->aia P ng nt n0 ro c x R W R' W':=by
 intro c;induction c with
 |skip=>intro _ x R W R' W' h σ a w Q hW hG hR hM hn hQ;injection h with h;injection h with h1 h2;injection h2 with h2 h3;subst h1;subst h2;subst h3;exact wpIn_skip (hQ σ a w hR hM hW (.refl _ _ _))
 |label l=>intro _ x R W R' W' h σ a w Q hW hG hR hM hn hQ;injection h with h;injection h with h1 h2;injection h2 with h2 h3;subst h1;subst h2;subst h3;exact wpIn_label (hQ σ a w hR hM hW (.refl _ _ _))
 |exit id=>intro _ x R W R' W' h σ a w Q hW hG hR hM hn hQ;injection h with h;injection h with h1 h2;injection h2 with h2 h3;subst h1;subst h2;subst h3;exact wpIn_exit (hQ σ a w hR hM hW (.refl _ _ _))
 |ret=>intro _ x R W R' W' h σ a w Q hW hG hR hM hn hQ;injection h with h;injection h with h1 h2;injection h2 with h2 h3;subst h1;subst h2;subst h3;exact wpIn_ret (hQ σ a w hR hM hW (.refl _ _ _))
 |goto l=>intro _ x R W R' W' h;cases h
 |scope b _=>intro _ x R W R' W' h;cases h
 |refuse s=>intro _ x R W R' W' h;cases h
 |region id ops Ft=>
  intro mQ x R W R' W' h σ a w Q hW hG hR hM hn hQ;simp only[ku,bA,oA,ur]at mQ;have SG:∀(i:Nat) (o:am),ops[i]? =some o->oH nt ng o=true:=λi o ho=>db.1 mQ.1 o (by have:=Array.mem_of_getElem? ho;simpa using this)
  unfold cz at h;split at h
  ·obtain⟨hx,hy⟩:=CB h;subst hx;refine wpIn_region (akM hc SG (List.range ops.size) σ R W a w (by simp) hW hG hR (by rw[MD];exact hy) λσ' a' w' k1 k2 k3 k4=>?_);exact hQ σ' a' w' k1 (by rw[k2];exact hM.ext k4) k3 k4
  ·have qk:NJ ops (aee ops (ai.D id ops))=true:=mQ.2.resolve_left (by simp);split at h
   ·rename_i hD;obtain⟨hx,hy⟩:=CB h;subst hx;rw[hD]at qk;refine Qy hm hc mQ.1 qk hW hG hR (Rf:=R') (Wf:=W') ?_ λσ' a' w' k1 k2 k3 k4=>hQ σ' a' w' k1 (by rw[k2];exact hM.ext k4) k3 k4
    show mO P call ops ((List.range ops.size).map λi=>(i,[])) R W=_;rw[Vn _ _ _ (by simp),MD];exact hy
   ·rename_i pl hD;obtain⟨hx,hy⟩:=CB h;subst hx;rw[hD]at qk;exact Qy hm hc mQ.1 qk hW hG hR hy λσ' a' w' k1 k2 k3 k4=>hQ σ' a' w' k1 (by rw[k2];exact hM.ext k4) k3 k4
 |seq b c S0 ihc=>
  intro mQ x R W R' W' h σ a w Q hW hG hR hM hn hQ;simp only[ku,bA]at mQ;unfold cz at h;split at h
  ·rename_i R1 W1 h1;refine wpIn_seq (S0 mQ.1 _ _ _ _ _ h1 σ a w _ hW hG hR hM hn λσ1 a1 w1 k1 k2 k3 k4=>?_);exact ihc mQ.2 _ _ _ _ _ h σ1 a1 w1 Q k3 (hG.mono k4.sub) k1 k2 (eS hn k4.size) λσ2 a2 w2 g1 g2 g3 g4=>hQ σ2 a2 w2 g1 g2 g3 (k4.trans g4)
  ·rename_i fp;have hx:x≠ .normal:=by rintro rfl;exact fp R' W' h
   exact wpIn_seq (S0 mQ.1 _ _ _ _ _ h σ a w _ hW hG hR hM hn λσ1 a1 w1 k1 k2 k3 k4=>Wd hx (hQ σ1 a1 w1 k1 k2 k3 k4))
 |cond o b c S0 ihc=>
  intro mQ x R W R' W' h σ a w Q hW hG hR hM hn hQ;simp only[ku,bA]at mQ;obtain⟨⟨h1,h2⟩,h3⟩:=mQ;have hv:=Nn hR hG h1;unfold cz at h;split at h
  ·rename_i he;rw[he]at hv;exact wpIn_cond_true hv.jY (S0 h2 _ _ _ _ _ h σ a w Q hW hG hR hM hn hQ)
  ·rename_i he;rw[he]at hv;exact wpIn_cond_false hv.jY (ihc h3 _ _ _ _ _ h σ a w Q hW hG hR hM hn hQ)
  ·cases h
 |block id b ih=>
  intro mQ x R W R' W' h σ a w Q hW hG hR hM hn hQ;simp only[ku]at mQ;unfold cz at h;split at h
  ·rename_i i R1 W1 h1;refine wpIn_block (ih mQ _ _ _ _ _ h1 σ a w _ hW hG hR hM hn λσ1 a1 w1 k1 k2 k3 k4=>Q2 ?_);simp only;split at h
   ·rename_i hi;injection h with h;injection h with e1 e2;injection e2 with e2 e3;subst e1;subst e2;subst e3;rw[an hi];exact hQ σ1 a1 w1 k1 k2 k3 k4
   ·rename_i hi;injection h with h;injection h with e1 e2;injection e2 with e2 e3;subst e1;subst e2;subst e3;rw[ap hi];exact hQ σ1 a1 w1 k1 k2 k3 k4
  ·rename_i fp;refine wpIn_block (ih mQ _ _ _ _ _ h σ a w _ hW hG hR hM hn λσ1 a1 w1 k1 k2 k3 k4=>Q2 ?_);cases x with
   |normal=>exact hQ σ1 a1 w1 k1 k2 k3 k4
   |exit i=>exact absurd h (fp i R' W')
   |ret=>exact hQ σ1 a1 w1 k1 k2 k3 k4
 |loop b ih=>intro mQ x R W R' W' h σ a w Q hW hG hR hM hn hQ;simp only[ku]at mQ;unfold cz at h;exact wpIn_loop_rounds _ ((acp (λx R W R' W' hh=>ih mQ x R W R' W' hh) _ x R W R' W' h).2 σ a w Q hW hG hR hM hn hQ)
 |rangeFunc f ps aC4 bd _ _=>
  intro mQ x R W R' W' h σ a w Q hW hG hR hM hn hQ;simp only[ku,bA]at mQ;obtain⟨⟨⟨h1,h2⟩,h3⟩,h4⟩:=mQ;unfold cz at h;split at h
  ·cases h
  have SF:ro=none:=uK rfl;subst SF;split at h;case h_2=>cases h
  rename_i i0 fs0 cs0 hf0;rw[AW.dX]at h;split at h;case h_2=>cases h
  rename_i u W2 aqI;split at h;case h_2=>cases h
  rename_i st qU R9 W9 Wj Xo Xf dT;obtain⟨p1,p2⟩:=hW.push (.deferred (some [])) (λ_ _ _ e=>by cases e);let w0:ar:={w with heap:=w.heap.push (.deferred (some []))};let OX:Nat->Loop:=λfn=>{state:=.ready,pending:=none,fn,tmps:=a.tmps,params:=ps,assign:=aC4,body:=bd,defers:=w.heap.size}
  refine wpIn_rangeFunc λfn _=>?_
  have PO:Sub σ (cu σ W.next ⟨w0.heap.size,0,1⟩):=dR hW.fresh;obtain⟨q1,q2⟩:=bI.alloc (w:=w0) p1 (o:=.loop .ready none R nt ps aC4 bd) (x:=.loop (OX fn)) (e:=1)
   ⟨rfl,rfl,OX fn,by simp,rfl,rfl,hR.mono PO,rfl,rfl,rfl,⟨by rw[<-VQ];exact hG.mono PO,by rw[<-VQ];exact h3⟩,⟨by rw[<-VQ];exact hG.mono PO,by rw[<-VQ];exact h4⟩,h2⟩
  have hfv:=(Nn hR hG h1).mono PO;rw[hf0]at hfv;have da:LR (cu σ W.next ⟨w0.heap.size,0,1⟩) [.func (.yield W.next) #[] #[]] [.func (.yield w0.heap.size) #[] #[]]:=
   .cons (.func _ _ _ _ _ _ (.yield _ _ dN) rfl (λi v v' x=>by simp at x) rfl (λi v v' x=>by simp at x)) .nil
  have hcv:=hc _ _ _ _ _ aqI _ {w0 with heap:=w0.heap.push (.loop (OX fn))} _ _ q1 (hG.mono PO) hfv da;have avX:w0.heap.size=w.heap.size+1:=by simp[w0]
  have alx:uA n0 (cu σ W.next ⟨w0.heap.size,0,1⟩) {w0 with heap:=w0.heap.push (.loop (OX fn))} ([{target:=.collected w.heap.size,args:=#[]}]++a.defers):=by
   refine⟨⟨w.heap.size,rfl,hn,?_,?_,?_⟩,(hM.ext p2).ext q2⟩
   ·show(w0.heap.push _)[w.heap.size]? =_;rw[xS,bM];simp[w0]
   ·intro b g hg e;unfold cu at hg;split at hg
    ·injection hg with hg;subst hg;simp at e;omega
    ·have:=(hW.qL b g hg).2;omega
   ·intro d' kg r' ht e;have:∀{ds:List eh},uA n0 σ w ds->∀d'∈ds,∀r',d'.target=.collected r'->r'<w.heap.size:=by
     intro ds;induction ds with
     |nil=>intro _ d' kg;cases kg
     |cons d ds ih=>
      rintro⟨⟨r,e1,e2,e3,_⟩,hds⟩ d' kg r' ht;rcases eI.1 kg with rfl|kg
      ·rw[e1]at ht;injection ht with ht;subst ht;exact(eV.1 e3).1
      ·exact ih hds d' kg r' ht
    have:=this hM d' kg r' ht;omega
  unfold BT at hcv;split at hcv;case h_3=>exact hcv.elim
  ·rename_i fv i fs cs Br;obtain⟨c1,c2⟩:=hcv;refine⟨w0.heap.size,[{target:=.collected w.heap.size,args:=#[]}],{w0 with heap:=w0.heap.push (.loop (OX fn))},{target:=.fn (.func i) cs,args:=fs++#[.func (.yield w0.heap.size) #[] #[]]},{w0 with heap:=w0.heap.push (.loop (OX fn))},i,fs++#[.func (.yield w0.heap.size) #[] #[]]++cs,{w0 with heap:=w0.heap.push (.loop (OX fn))},?_,?_,λ_ _=>trivial,?_,λhd=>by rw[Ke]at hd;simp at hd,?_⟩
   ·show(Instr.enterLoop fn a.tmps ps aC4 bd none).run P w=_;rw[run_enterLoop_outer,avX];rfl
   ·show(resolve a.eval (rangeCall f w0.heap.size) 0).run P _=.ok _ {w0 with heap:=w0.heap.push (.loop (OX fn))};have:a.eval f=.func (.func i) fs cs:=Br;have atw:a.eval (.const (.func (.yield w0.heap.size) #[] #[]))=.func (.yield w0.heap.size) #[] #[]:=rfl;simp[resolve,this,Deferred.ofValue,atw]
   ·show(invoke (.fn (.func i) cs) (fs++#[.func (.yield w0.heap.size) #[] #[]])).run P _=_;have c1':(callFunc i (fs++#[.func (.yield w0.heap.size) #[] #[]]++cs)).run P {w0 with heap:=w0.heap.push (.loop (OX fn))}=_:=c1;simpa[invoke]using c1'
   ·refine oV (Kn c2) ?_;rintro e w' ⟨v',rfl,σ',k1,k2,k3⟩;obtain⟨hz,hzz⟩:σ' W.next=some ⟨w0.heap.size,0,1⟩/\True:=⟨k3.sub _ _ dN,ak⟩;obtain⟨_,_,r,r1,r2,r3,r4,r5,r6,r7,r8,r9,pi⟩:=k2.obj _ _ _ dT hz;have awJ:st≠ .busy:=by rintro rfl;simp at h
    have asK:=run_endLoop (P:=P) r1 (by rw[r2];exact awJ);obtain⟨s1,s2⟩:=k2.setObj (w:=w') (o':=.loop .exhausted qU R9 W9 Wj Xo Xf) (x:=.loop {r with state:=.exhausted}) dT (λ_=>by simp) hz ⟨rfl,rfl⟩ (λc t fr e=>by rw[r1]at e;cases e)
     ⟨rfl,rfl,{r with state:=.exhausted},by simp[(k2.qL _ _ hz).2],rfl,r3,r4,r5,r6,r7,r8,r9,pi⟩
    obtain⟨t1,t2⟩:=bI.kill (w:={w' with heap:=w'.heap.setIfInBounds w0.heap.size (.loop {r with state:=.exhausted})}) s1 (b:=W.next) (g0:=⟨w0.heap.size,0,1⟩) (λcs=>by rw[AW.aW];simp) hz;have aof:(W2.put W.next (.loop .exhausted qU R9 W9 Wj Xo Xf)).kill W.next=W2.kill W.next:=by simp only[AW.kill,AW.put];congr 1;exact T.set_set _ _ _ _
    rw[aof]at t1 t2;have QW:fT σ W w σ' (W2.kill W.next) {w' with heap:=w'.heap.setIfInBounds w0.heap.size (.loop {r with state:=.exhausted})}:=
     (((p2.trans q2).trans k3).trans s2).trans t2
    have ajL:uA n0 σ' {w' with heap:=w'.heap.setIfInBounds w0.heap.size (.loop {r with state:=.exhausted})} ([{target:=.collected w.heap.size,args:=#[]}]++a.defers):=
     ((alx.ext k3).ext s2).ext t2
    refine⟨qU,{w' with heap:=w'.heap.setIfInBounds w0.heap.size (.loop {r with state:=.exhausted})},by rw[asK,r3];rfl,?_⟩;have mu:∀x',x=x'->R'=R->W'=W2.kill W.next->Q x'.to {a with defers:=[{target:=.collected w.heap.size,args:=#[]}]++a.defers} {w' with heap:=w'.heap.setIfInBounds w0.heap.size (.loop {r with state:=.exhausted})}:=by rintro x' rfl rfl rfl;exact hQ σ' _ _ (hR.mono QW.sub) ajL t1 QW
    cases qU with
    |none=>
     have:x=.normal/\R'=R/\W'=W2.kill W.next:=by cases st<;>simp at h<;>simp_all
     exact mu .normal this.1 this.2.1 this.2.2
    |some cc=>
     cases cc<;>first
      |(exfalso;cases st<;>simp at h;done)
      |skip
     ·rename_i id;have:x=.exit id/\R'=R/\W'=W2.kill W.next:=by cases st<;>simp at h<;>simp_all
      exact wpIn_exit (mu (.exit id) this.1 this.2.1 this.2.2)
     ·have:x=.ret/\R'=R/\W'=W2.kill W.next:=by cases st<;>simp at h<;>simp_all
      exact wpIn_ret (mu .ret this.1 this.2.1 this.2.2)
  ·rename_i fv l fs cs Br;exfalso;obtain⟨Lo,yg,cV,k1,_,_,k4⟩:=hfv.mG;cases k1;rw[Br]at k4;cases k4
end
end
section
variable [ai]
def cG:Nat->List ad->ai.Fr->ai.Fr
 |_,[],R=>R
 |k,v::l,R=>cG (k+1) l (Qm R k v)
def nT:List Tmp->List ad->ai.Fr->ai.Fr
 |t::ts,v::l,R=>nT ts l (Qm R t v)
 |_,_,R=>R
def LI(P:ag)(W:AW)(R:ai.Fr):List ResultVar->Option (List ad)
 |[]=>some []
 |.tmp t::l=>match LI P W R l with
  |some vs=>some (dy R t::vs)
  |none=>none
 |.cell a t::l=>match mh P W t (dy R a)with
  |some v=>match LI P W R l with
   |some vs=>some (v::vs)
   |none=>none
  |none=>none
def wl(P:ag)(W:AW)(R:ai.Fr)(rs:Array ResultVar):Option ad:=
 match LI P W R rs.toList with
 |some [v]=>some v
 |some vs=>some (.tuple vs.toArray)
 |none=>none
def M7(nt:Nat):ResultVar->Bool
 |.tmp t=>Nat.blt t nt
 |.cell a _=>Nat.blt a nt
def Wn(ng:List Nat)(fn:iC):Bool:=
 match fn.body with
 |some c=>ku fn.ntmps ng c&&fn.results.toList.all (M7 fn.ntmps)&& !(fn.name== "runtime.NumGoroutine")
 |none=>true
def nk(ng:List Nat)(bad:List Nat):Nat->List iC->Bool
 |_,[]=>true
 |i,fn::l=>(PG i bad||Wn ng fn)&&nk ng bad (i+1) l
def nM(P:ag)(bad:List Nat)(spec call:Callee):Callee:=λf args W=>
 match f with
 |.func (.func i) fs cs=>match PG i bad with
  |true=>spec (.func (.func i) fs cs) args W
  |false=>match P.funcs[i]? with
   |some fn=>match fn.body with
    |some c=>match Nat.ble (fs.toList.length+(args.length+cs.toList.length)) fn.ntmps with
     |true=>match cz P call true fn.ntmps c (cG 0 (fs.toList++(args++cs.toList)) ai.blank) W with
      |some (x,R,W')=>match x with
       |.exit _=>none
       |_=>match wl P W' R fn.results with
        |some v=>some (v,W')
        |none=>none
      |none=>none
     |false=>none
    |none=>none
   |none=>none
 |.func (.yield l) fs _=>match W.get l with
  |some (.loop .ready none R nt ps aC4 bd)=>match Nat.beq (fs.toList.length+args.length) ps.size with
   |true=>match cz P call false nt aC4 (nT ps.toList (fs.toList++args) R) W with
    |some (.normal,R1,W1)=>match W1.get l with
     |some (.loop .ready pd9 R9 W9 Wj Xo Xf)=>match cz P call false nt bd R1 (W1.put l (.loop .busy pd9 R9 W9 Wj Xo Xf))with
      |some (x,_,W2)=>match W2.get l with
       |some (.loop _ _ R8 nt8 ps8 as8 bd8)=>match x with
        |.normal=>some (.bool true,W2.put l (.loop .ready none R8 nt8 ps8 as8 bd8))
        |x=>some (.bool false,W2.put l (.loop .done x.jump R8 nt8 ps8 as8 bd8))
       |_=>none
      |none=>none
     |_=>none
    |_=>none
   |false=>none
  |_=>none
 |_=>none
def Va(P:ag)(bad:List Nat)(spec:Callee):Nat->Callee
 |0=>λ_ _ _=>none
 |n+1=>nM P bad spec (Va P bad spec n)
def UG{ng:List Nat}{bad:List Nat}:∀(l:List iC) (k:Nat),nk ng bad k l=true->∀(i:Nat) (fn:iC),l[i]? =some fn->PG (k+i) bad=false->Wn ng fn=true:=by
 intro l;induction l with
 |nil=>intro k _ i fn h;simp at h
 |cons f l ih=>
  intro k h i fn hi hb;simp only[nk,bA,oA]at h;cases i with
  |zero=>
   simp at hi;subst hi;rcases h.1 with h1|h1
   ·simp at hb;rw[h1]at hb;cases hb
   ·exact h1
  |succ i=>simp at hi;exact ih (k+1) h.2 i fn hi (by rw[<-hb];congr 1;omega)
def agU(t:Nat):dy ai.blank t=aj:=ai.E5 t
def Y4:∀(l:List ad) (k:Nat) (R:ai.Fr) (t:Nat),dy (cG k l R) t=if k<=t/\t<k+l.length then l.getD (t-k) aj else dy R t:=by
 intro l;induction l with
 |nil=>intro k R t;simp[cG];intro h1 h2;omega
 |cons v l ih=>
  intro k R t;simp only[cG,ih,cQ];by_cases h:k=t
  ·subst h;rw[bM,kJ,Be];simp
  ·rw[xT _ _ h];by_cases h2:k+1<=t/\t<k+1+l.length
   ·rw[an h2,kJ];obtain⟨j,hj⟩:∃j,t-k=j+1:=⟨t-k-1,by omega⟩;have:t-(k+1)=j:=by omega
    rw[this,hj];simp
   ·rw[ap h2,bM]
section
variable {P:ag} {σ:dz} {W:AW} {w:ar}
def aek{nt:Nat}{l:List ad}{a:Array ad}(h:LR σ l a.toList)(hn:l.length<=nt):fz nt σ (cG 0 l ai.blank) (a++Array.replicate (nt-a.size) aj):=by
 have dv:l.length=a.size:=by have:=h.1;simpa using this
 refine⟨by simp;omega,λt ht=>?_⟩;rw[Y4];by_cases lA:t<l.length
 ·rw[kJ];have h1:l[t]? =some l[t]:=bN lA;obtain⟨v',e,hv⟩:=h.get h1;have e1:l.getD (t-0) aj=l[t]:=by simp[lA]
  have e2:(a++Array.replicate (nt-a.size) aj).getD t aj=v':=by
   rw[xj]at e;have:t<a.size:=by omega
   simp[DZ,this];rw[jK this]at e;injection e
  rw[e1,e2];exact hv
 ·rw[bM,agU];have e2:(a++Array.replicate (nt-a.size) aj).getD t aj=aj:=by simp only[zw,DZ];rw[bM];simp[Array.getElem?_replicate];split<;>rfl
  rw[e2];exact .undef
def af0{nt:Nat}:∀(ts:List Tmp) (l l':List ad) (R:ai.Fr) (tm:Array ad),LR σ l l'->ts.all (λt=>Nat.blt t nt)=true->fz nt σ R tm->
 fz nt σ (nT ts l R) ((ts.zip l').foldl (λtmps (x:Tmp×ad)=>tmps.setIfInBounds x.1 x.2) tm):=by
 intro ts;induction ts with
 |nil=>intro l l' R tm h _ hR;cases l<;>exact hR
 |cons t ts ih=>
  intro l l' R tm h ha hR;cases l with
  |nil=>have:=h.of_nil;subst this;exact hR
  |cons v l=>obtain⟨v',l'',rfl,hv,hl⟩:=h.of_cons;simp only[dC,bA]at ha;exact ih l l'' _ _ hl ha.2 (hR.set t hv)
def Sj(hW:bI σ W w.heap){t:af}{x x' v:ad}(h:mh P W t x=some v)(hx:VR σ x x'):
 ∃v',(do loadVar t (<-asAddr x'):Sem ad).run P w=.ok v' w/\VR σ v v':=by
 obtain⟨v',h1,h2⟩:=MT hW h hx;refine⟨v',?_,h2⟩;rw[<-h1];unfold mh at h;split at h
 ·obtain⟨g,hg,hs,rfl⟩:=hx.xf;simp[asAddr,Instr.loadAt,Instr.sureAddr]
 ·cases h
def Ps(tmps:Array ad)(r:ResultVar):Sem ad:=
 match r with
 |.tmp t=>pure (tmps.getD t aj)
 |.cell a t=>do loadVar t (<-asAddr (tmps.getD a aj))
def Ue(fn:iC)(tmps:Array ad):results fn tmps=(do let vs<-fn.results.mapM (Ps tmps);pure (if h:vs.size=1 then vs[0]else .tuple vs)):=rfl
def aej(hW:bI σ W w.heap){nt:Nat}{R:ai.Fr}{tmps:Array ad}(hR:fz nt σ R tmps):∀(rs:List ResultVar) (vs:List ad),rs.all (M7 nt)=true->LI P W R rs=some vs->
 ∃Ky,LR σ vs Ky/\(rs.mapM (Ps tmps)).run P w=.ok Ky w:=by
 intro rs;induction rs with
 |nil=>intro vs _ h;injection h with h;subst h;exact⟨[],.nil,by simp⟩
 |cons r rs ih=>
  intro vs mQ h;simp only[dC,bA]at mQ;cases r with
  |tmp t=>
   unfold LI at h;split at h
   ·rename_i vs0 h0;injection h with h;subst h;obtain⟨Ky,k1,k2⟩:=ih vs0 mQ.2 h0;refine⟨_,.cons (hR.2 t (by simpa[M7,jG]using mQ.1)) k1,?_⟩;have h1:(Ps tmps (.tmp t)).run P w=.ok (tmps.getD t aj) w:=rfl;rw[List.mapM_cons,cS,h1,cN,cS,k2,cN];rfl
   ·cases h
  |cell a t=>
   unfold LI at h;split at h
   ·rename_i v hv;split at h
    ·rename_i vs0 h0;injection h with h;subst h;obtain⟨Ky,k1,k2⟩:=ih vs0 mQ.2 h0;obtain⟨v',k3,k4⟩:=Sj hW hv (hR.2 a (by simpa[M7,jG]using mQ.1));refine⟨_,.cons k4 k1,?_⟩;have h1:(Ps tmps (.cell a t)).run P w=.ok v' w:=k3;rw[List.mapM_cons,cS,h1,cN,cS,k2,cN];rfl
    ·cases h
   ·cases h
def Oz(hW:bI σ W w.heap){fn:iC}{R:ai.Fr}{tmps:Array ad}{v:ad}(mQ:fn.results.toList.all (M7 fn.ntmps)=true)(hR:fz fn.ntmps σ R tmps)(h:wl P W R fn.results=some v):
 ∃v',(results fn tmps).run P w=.ok v' w/\VR σ v v':=by
 unfold wl at h;have key:∀vs,LI P W R fn.results.toList=some vs->∃Ky,LR σ vs Ky/\(results fn tmps).run P w=.ok (if h:Ky.toArray.size=1 then Ky.toArray[0]else .tuple Ky.toArray) w:=by intro vs hvs;obtain⟨Ky,k1,k2⟩:=aej hW hR _ _ mQ hvs;refine⟨Ky,k1,?_⟩;rw[Ue,cS,Array.mapM_eq_mapM_toList,Sem.run_map,k2];rfl
 split at h
 ·rename_i u hu;injection h with h;subst h;obtain⟨Ky,k1,k2⟩:=key _ hu;obtain⟨v',l',rfl,k3,k4⟩:=k1.of_cons;have:=k4.of_nil;subst this;exact⟨v',by rw[k2];simp,k3⟩
 ·rename_i vs fp hvs;injection h with h;subst h;obtain⟨Ky,k1,k2⟩:=key _ hvs;refine⟨.tuple Ky.toArray,?_,VR.tuple' (by simpa using k1)⟩;rw[k2];have:Ky.toArray.size≠1:=by
   intro e;have e2:vs.length=1:=by have:=k1.1;simp at e;omega
   match vs,e2 with
   |[u],_=>exact fp u rfl
  rw[dif_neg this]
 ·cases h
end
section
variable {P:ag} {σ σ0:dz} {W W0:AW} {w w0:ar}
def fT.other(he:fT σ0 W0 w0 σ W w){r:Nat}(hr:w0.heap.size<=r){x y:Obj}(hy:w.heap[r]? =some y)(hx:∀c t fr,x≠ .cells c t fr)(hy':∀c t fr,y≠ .cells c t fr):fT σ0 W0 w0 σ W (w.putObj r x):=
 ⟨he.sub,he.ro,by simpa[World.putObj]using he.size,he.os,he.tape,he.output,λB hB hm=>by rw[World.putObj_heap_other (by omega)];exact he.keep B hB hm,he.ghost,he.grow⟩
def alH{fn:iC}{R:ai.Fr}{tmps:Array ad}{v:ad}(mQ:fn.results.toList.all (M7 fn.ntmps)=true)(hR:fz fn.ntmps σ R tmps)(h:wl P W R fn.results=some v):
 ∀(ds:List eh) (w:ar),uA w0.heap.size σ w ds->bI σ W w.heap->fT σ0 W0 w0 σ W w->
  LeavesInM (FE none) 0 P fn tmps (λe w'=>∃v',e=.returned v'/\∃σ',VR σ' v v'/\bI σ' W w'.heap/\fT σ0 W0 w0 σ' W w') ds .returning w:=by
 intro ds;induction ds with
 |nil=>intro w _ hW he;obtain⟨v',k1,k2⟩:=Oz hW mQ hR h;exact⟨v',k1,v',rfl,σ,k2,hW,he⟩
 |cons d ds ih=>
  rintro w ⟨⟨r,e1,e2,e3,e4,e5⟩,hds⟩ hW he;refine⟨by simp,.inl ⟨r,w.putObj r (.deferred none),by rw[e1],run_takeDeferred e3,ih _ ?_ (hW.other e4 _) (he.other e2 e3 (λ_ _ _ e=>by cases e) (λ_ _ _ e=>by cases e))⟩⟩;have:∀{ds:List eh},(∀d'∈ds,∀r',d'.target=.collected r'->r'≠r)->uA w0.heap.size σ w ds->uA w0.heap.size σ (w.putObj r (.deferred none)) ds:=by
   intro ds;induction ds with
   |nil=>intro _ _;trivial
   |cons d ds ih=>rintro fp ⟨⟨r',a1,a2,a3,a4,a5⟩,hds⟩;exact⟨⟨r',a1,a2,by rw[World.putObj_heap_other (fp d (by simp) r' (by rw[a1]))];exact a3,a4,a5⟩,ih (λd' kg=>fp d' (by simp[kg])) hds⟩
  exact this e5 hds
end
end
section
variable [ai]
def VF(l:Nat):(FE none).inRound l=FE (some l):=rfl
def fk{P:ag}{f:jU}{fn:iC}{c:bU}(hf:P.funcs[f]? =some fn)(qN:(fn.name== "runtime.NumGoroutine")=false)(hb:fn.body=some c)(args:Array ad)(w:ar):
 (callFunc f args).run P w=.ok (.enter f args) w:=by
 have h1:fn.name≠ "runtime.NumGoroutine" :=by simpa using qN
 simp[callFunc,hf,h1,hb]
def Ht{P:ag}(hm:P.follows .mixedOrders=true){ng:List Nat}(VQ:ng=ai.ng){bad:List Nat}(hP:nk ng bad 0 P.funcs.toList=true){spec:Callee}(hs:cl P ng spec){call:Callee}(ih:cl P ng call):
 cl P ng (nM P bad spec call):=by
 intro f args W v W' h σ w f' cZ hW hG hf da
 unfold nM at h
 split at h
 ·
  rename_i i fs cs;split at h
  ·exact hs _ _ _ _ _ h σ w f' cZ hW hG hf da
  rename_i Mf;split at h;case h_2=>cases h
  rename_i fn LK;split at h;case h_2=>cases h
  rename_i c ac9;split at h;case h_2=>cases h
  rename_i dv;split at h;case h_2=>cases h
  rename_i x R W1 aoU;have afA:Wn ng fn=true:=UG _ _ hP i fn (by rw[xj];exact LK) (by simpa using Mf);unfold Wn at afA;rw[ac9]at afA;simp only[bA,ur]at afA;obtain⟨⟨hco,as4⟩,qN⟩:=afA;obtain⟨Lo,yg,cV,ET,H4,sW,rfl⟩:=hf.mG;cases ET;have hx:(∀id,x≠ .exit id)/\∃v0,wl P W1 R fn.results=some v0/\v0=v/\W1=W':=by
   cases x with
   |exit id=>cases h
   |normal=>
    refine⟨λid e=>X.noConfusion e,?_⟩;simp only at h;split at h
    ·rename_i v0 Z3;injection h with h;injection h with h1 h2;exact⟨v0,Z3,h1,h2⟩
    ·cases h
   |ret=>
    refine⟨λid e=>X.noConfusion e,?_⟩;simp only at h;split at h
    ·rename_i v0 Z3;injection h with h;injection h with h1 h2;exact⟨v0,Z3,h1,h2⟩
    ·cases h
  obtain⟨hxe,v0,Z3,rfl,rfl⟩:=hx;have yC:LR σ (fs.toList++(args++cs.toList)) (yg++cZ.toArray++cV).toList:=by have h1:=(H4.append (da.append sW));simpa[iR]using h1
  have apW:(fs.toList++(args++cs.toList)).length<=fn.ntmps:=by have:=Nat.le_of_ble_eq_true dv;simpa using this
  refine⟨fk LK qN ac9 _ w,?_⟩;refine callsIn_of_wp_marks LK ac9 trivial ?_;refine y7 hm VQ ih (n0:=w.heap.size) (λ_=>rfl) c hco x _ _ _ _ aoU σ _ w _ hW hG (aek yC apW) trivial (aQ _) λσ' a' w' k1 k2 k3 k4=>?_
  have hl:=alH as4 k1 Z3 a'.defers w' k2 k3 k4;cases x with
  |exit id=>exact absurd rfl (hxe id)
  |normal=>exact hl
  |ret=>exact hl
 ·
  rename_i l fs cs;split at h;case h_2=>cases h
  rename_i R nt ps aC4 bd dT;split at h;case h_2=>cases h
  rename_i dv;split at h;case h_2=>cases h
  rename_i R1 W1 alR;split at h;case h_2=>cases h
  rename_i pd9 R9 W9 Wj Xo Xf aib;split at h;case h_2=>cases h
  rename_i x R2 W2 ajq;split at h;case h_2=>cases h
  rename_i st8 pd8 R8 nt8 ps8 as8 bd8 aiH;obtain⟨Lo,yg,cV,ET,H4,sW,rfl⟩:=hf.mG;cases ET with
  |yield _ g hg=>
  obtain⟨g1,g2,r,r1,r2,r3,r4,r5,r6,r7,⟨hG1,hk1⟩,⟨hG2,Xq⟩,hps⟩:=hW.obj _ _ _ dT hg;have yC:LR σ (fs.toList++args) (yg++cZ.toArray).toList:=by have h1:=H4.append da;simpa using h1
  have vZ:(yg++cZ.toArray).size=r.params.size:=by have h1:=yC.1;have h2:fs.toList.length+args.length=ps.size:=AU dv;rw[cx,h2,Array.length_toList]at h1;rw[r5];exact h1.symm
  refine⟨r.fn,_,r.assign,r.body,run_yield r1 vZ,?_⟩;rw[r6,r7];refine roundIn_of_wpIn trivial ?_;have hR0:fz nt σ (nT ps.toList (fs.toList++args) R) ((r.params.zip (yg++cZ.toArray)).foldl (λtmps (x:Tmp×ad)=>tmps.setIfInBounds x.1 x.2) r.tmps):=by have:=af0 ps.toList _ _ R r.tmps yC hps r4;rw[r5,<-Array.foldl_toList,Array.toList_zip];exact this
  rw[<-VQ]at hk1 Xq;rw[VF];refine y7 hm VQ ih (n0:=w.heap.size) (ro:=some g.B) (λe=>by cases e) aC4 hk1 .normal _ _ _ _ alR σ _ w _ hW hG hR0 trivial (aQ _) λσ1 a1 w1 k1 k2 k3 k4=>?_
  have hg1:σ1 l=some g:=k4.sub _ _ hg;obtain⟨_,_,rr,q1,q2,q3,q4,q5,q6,q7,q8,q9,q10⟩:=k3.obj _ _ _ aib hg1;have aqL:g.s=0/\g.e=1:=⟨g1,g2⟩;obtain⟨s1,s2⟩:=k3.setObj (w:=w1) (o':=.loop .busy pd9 R9 W9 Wj Xo Xf) (x:=.loop {rr with state:=.busy}) aib (λ_=>by simp) hg1 aqL (λc t fr e=>by rw[q1]at e;cases e)
   ⟨g1,g2,{rr with state:=.busy},by simp[(k3.qL _ _ hg1).2],rfl,q3,q4,q5,q6,q7,q8,q9,q10⟩
  refine⟨_,run_beginRound q1 q2,?_⟩;refine y7 hm VQ ih (n0:=w.heap.size) (ro:=some g.B) (λe=>by cases e) bd Xq x _ _ _ _ ajq σ1 a1 (w1.putObj g.B (.loop {rr with state:=.busy})) _ s1 (hG.mono k4.sub) k1 (k2.ext s2) (by have:=k4.size;simpa using this) λσ2 a2 w2 _ _ t3 t4=>?_
  have rX:σ2 l=some g:=t4.sub _ _ hg1;obtain⟨_,_,r8,u1,u2,u3,u4,u5,u6,u7,u8,u9,u10⟩:=t3.obj _ _ _ aiH rX;have mu:∀(jump:Option bU) (st':LoopState),st'=(if jump.isNone then .ready else .done)->v=.bool jump.isNone->W'=W2.put l (.loop st' jump R8 nt8 ps8 as8 bd8)->
   ∃v' w',(Instr.endRound g.B jump).run P w2=.ok v' w'/\∃v'',Ending.returned v'=.returned v''/\∃σ',VR σ' v v''/\bI σ' W' w'.heap/\fT σ W w σ' W' w':=by
   intro jump st' t7 hv hW';subst t7;subst hv;subst hW';obtain⟨z1,z2⟩:=t3.setObj (w:=w2) (o':=.loop (if jump.isNone then .ready else .done) jump R8 nt8 ps8 as8 bd8) (x:=.loop {r8 with state:=if jump.isNone then .ready else .done,pending:=jump}) aiH (λ_=>by simp) rX aqL (λc t fr e=>by rw[u1]at e;cases e)
    ⟨g1,g2,{r8 with state:=if jump.isNone then .ready else .done,pending:=jump},by simp[(t3.qL _ _ rX).2],rfl,rfl,u4,u5,u6,u7,u8,u9,u10⟩
   exact⟨_,_,run_endRound jump u1,_,rfl,σ2,.bool _,z1,((k4.trans s2).trans t4).trans z2⟩
  cases x with
  |normal=>simp only at h;injection h with h;injection h with h1 h2;exact mu none .ready rfl h1.symm h2.symm
  |exit id=>simp only at h;injection h with h;injection h with h1 h2;exact mu (some (.exit id)) .done rfl h1.symm h2.symm
  |ret=>simp only at h;injection h with h;injection h with h1 h2;exact mu (some .ret) .done rfl h1.symm h2.symm
 ·cases h
def Nd{P:ag}(hm:P.follows .mixedOrders=true){ng:List Nat}(VQ:ng=ai.ng){bad:List Nat}(hP:nk ng bad 0 P.funcs.toList=true){spec:Callee}(hs:cl P ng spec):
 ∀n,cl P ng (Va P bad spec n)
 |0=>λf args W v W' h=>by cases h
 |n+1=>Ht hm VQ hP hs (Nd hm VQ hP hs n)
end
section
variable [ai]
def nX(P:ag)(ok:Bool)(s:Sem Next):Option ad:=
 if ok then match EM (cH P s)with
  |some v=>if bL v then some v else none
  |none=>none
 else none
def dS(v:ad)(W:AW):Option (ad×AW):=some (v,W)
def kH(c a b:ad)(W:AW):Option (ad×AW):=match c with
 |.bool true=>some (a,W)
 |.bool false=>some (b,W)
 |_=>none
def dm(P:ag)(t:af)(W:AW):Option (ad×AW):=match kN P t with
 |some z=>some (.pointer (some ⟨W.next,0,none⟩),W.add (rD t z.cells.toList))
 |none=>none
def pP(x:ad)(W:AW):Option (ad×AW):=some (.pointer (some ⟨W.next,0,none⟩),W.add (.cells x.cells.toList))
def amW(P:ag)(t:af)(vs:List (Nat×ad)):Option ad:=
 match kN P t,P.underlying t with
 |some z,some (.struct fs)=>match wJ P fs.toList with
  |some pl=>(GK (pl.toArray[·]?) z.cells vs).map .agg
  |none=>none
 |some z,some (.array _ e)=>match oD P e with
  |some n=>(GK (λi=>some (i*n,n)) z.cells vs).map .agg
  |none=>none
 |_,_=>none
def dU(P:ag)(t:af)(vs:List (Nat×ad))(W:AW):Option (ad×AW):=(amW P t vs).map λv=>(v,W)
def cJ(P:ag)(t:af)(len:Nat)(vs:List (Nat×ad))(W:AW):Option (ad×AW):=
 match P.underlying t with
 |some (.slice e)=>match oD P e,kN P e with
  |some n,some z=>
   if len*n<=16777216/\len<eG/\(Nat.beq z.cells.size n&&z.cells.toList.all cC)=true then
    match GK (λi=>some (i*n,n)) (yP z.cells.toList len).toArray vs with
    |some c=>some (Value.slice (some ⟨W.next,0,none⟩) len len,W.add (.cells c.toList))
    |none=>none
   else none
  |_,_=>none
 |_=>none
def jx(P:ag)(t:af)(a:ad)(W:AW):Option (ad×AW):=(mh P W t a).map λv=>(v,W)
def FD(W:AW)(b off:Nat)(vs:List ad):Option AW:=match W.get b with
 |some (.cells cs)=>(match JQ cs off vs with
  |some l=>some (W.put b (.cells l))
  |none=>none)
 |_=>none
def Jw(W:AW)(b off:Nat)(vs:List ad):FD W b off vs=match W.get b with
 |some (.cells cs)=>if off+vs.length<=cs.length/\vs.all one=true then some (W.put b (.cells (iG cs off vs)))else none
 |_=>none:=by
 unfold FD;split
 ·rename_i cs sW;rw[FK];by_cases h:off+vs.length<=cs.length/\vs.all one=true
  ·rw[an h,an h]
  ·rw[ap h,ap h]
 ·rfl
def X1{W W':AW}{b off:Nat}{vs:List ad}(h:FD W b off vs=some W'):rR W b off vs=some W':=by
 unfold FD at h;unfold rR;split at h
 ·rename_i cs sW;rw[sW];exact h
 ·cases h
def D2(P:ag)(W:AW)(t:af)(x v:ad):Option AW:=
 match x with
 |.pointer (some a)=>match oD P t with
  |some n=>if v.cells.size=n then FD W a.block a.off v.cells.toList else none
  |none=>none
 |_=>none
def UD{P:ag}{W W':AW}{t:af}{x v:ad}(h:D2 P W t x v=some W'):Ct P W t x v=some W':=by
 unfold D2 at h;unfold Ct;split at h
 ·split at h
  ·rename_i n hn;simp only[hn];split at h
   ·rename_i hc;rw[an hc];exact X1 h
   ·cases h
  ·cases h
 ·cases h
def alC(P:ag)(t:af)(a x:ad)(W:AW):Option (ad×AW):=(D2 P W t a x).map λW'=>(aj,W')
def sQ(x:ad)(W:AW):Option (ad×AW):=match x with
 |.pointer (some a)=>some (.pointer (some a),W)
 |.func (.func f) a b=>some (.func (.func f) a b,W)
 |.func (.yield l) a b=>some (.func (.yield l) a b,W)
 |.iface t v=>some (.iface t v,W)
 |_=>none
def opd:Bool->au
 |true=>.const aj
 |false=>.tmp 0
def oU:au->Bool:=Operand.rec (λ_=>false) (λ_=>true) (λ_=>false) (λ_=>false)
def Ly(op:BinOp)(t:af)(x y:au)(a b:ad):eqGuard op t x y a b=eqGuard op t (opd (oU x)) (opd (oU y)) a b:=by cases x<;>cases y<;>rfl
def bO(P:ag)(op:BinOp)(t:af)(a b:Bool)(vx vy:ad)(W:AW):Option (ad×AW):=
 match rP P W op t vx vy with
 |some v=>some (v,W)
 |none=>(nX P (bL vx&&(bL vy&&true)) (do pure (.value (<-(do eqGuard op t (opd a) (opd b) vx vy;binOp op t vx vy))))).map λv=>(v,W)
def oUn(P:ag)(op:UnOp)(x:ad)(W:AW):Option (ad×AW):=
 (nX P (bL x&&true) (do pure (.value (<-Op.unary op x)))).map λv=>(v,W)
def tY(P:ag)(s d:af)(x:ad)(W:AW):Option (ad×AW):=
 (JI P W s d x (nX P (bL x&&true) (do pure (.value (<-convert s d x))))).map λv=>(v,W)
def RG(P:ag)(t:af)(x:ad)(W:AW):Option (ad×AW):=match P.underlying t with
 |some (.interface _)=>none
 |some _=>some (.iface t x,W)
 |none=>none
def uj(fn:Fn)(first li:Array ad)(W:AW):Option (ad×AW):=match fn with
 |.func f=>some (.func (.func f) first li,W)
 |_=>none
def vi(P:ag)(t:af)(r:Option ad)(W:AW):Option (ad×AW):=match r with
 |none=>some (Value.map (some W.next),W.add (.map [] 0))
 |some h=>match P.underlying t,h with
  |some (.map _ _),.int _ _=>some (Value.map (some W.next),W.add (.map [] 0))
  |_,_=>none
def gh(P:ag)(t:af)(l c:ad)(W:AW):Option (ad×AW):=
 match P.underlying t with
 |some (.slice e)=>match oD P e,kN P e,(P.info? e).map (·.bytes),l,c with
  |some n,some z,some bytes,.int _ (.ofNat l),.int _ (.ofNat c)=>
   if l<=c/\c<9223372036854775808/\c*bytes<=281474976710656/\(kI z (c*n)).toList.all cC=true then
    some (Value.slice (some ⟨W.next,0,none⟩) l c,W.add (.cells (kI z (c*n)).toList))
   else none
  |_,_,_,_,_=>none
 |_=>none
def ft(P:ag)(t:af)(x:ad)(lo hi mx:Option ad)(W:AW):Option (ad×AW):=
 match nH P t x lo hi mx with
 |some v=>some (v,W)
 |none=>(nX P ((x::(lo.toList++(hi.toList++mx.toList))).all bL) (do pure (.value (<-Instr.sliceAt t x lo hi mx)))).map λv=>(v,W)
def Te(P:ag)(s:af)(x:ad)(f:Nat)(W:AW):Option (ad×AW):=match P.underlying s,x with
 |some (.struct fs),.pointer (some a)=>match fs[f]? with
  |some fl=>match oD P fl.type with
   |some (_+1)=>some (.pointer (some (a.add fl.offset)),W)
   |_=>none
  |none=>none
 |_,_=>none
def aj7(P:ag)(t:af)(x:ad)(f:Nat)(W:AW):Option (ad×AW):=match P.underlying t,x with
 |some (.struct fs),.agg cs=>match fs[f]? with
  |some fl=>(Df P fl.type cs fl.offset).map λv=>(v,W)
  |none=>none
 |_,_=>none
def UX(P:ag)(t:af)(x i:ad)(W:AW):Option (ad×AW):=match P.underlying t,x,lY i with
 |some (.slice e),.slice (some a) len _,some n=>match oD P e with
  |some z=>if n<len then some (.pointer (some (a.add (n*z))),W)else none
  |none=>none
 |some (.array len e),.pointer (some a),some n=>match oD P e with
  |some z=>if n<len then some (.pointer (some (a.add (n*z))),W)else none
  |none=>none
 |_,_,_=>none
def rS(P:ag)(t:af)(x i:ad)(W:AW):Option (ad×AW):=match P.underlying t,x,lY i with
 |some (.array len e),.agg cs,some n=>match oD P e with
  |some z=>if n<len then(Df P e cs (n*z)).map λv=>(v,W)else none
  |none=>none
 |_,_,_=>(nX P (bL x&&(bL i&&true)) (do pure (.value (<-Instr.index t x i)))).map λv=>(v,W)
def uN(P:ag)(t:af)(m k:ad)(ok:Bool)(W:AW):Option (ad×AW):=(oB P W t m k ok).map λv=>(v,W)
def jI(P:ag)(t:af)(m k v:ad)(W:AW):Option (ad×AW):=(jH P W t m k v).map λW'=>(aj,W')
def tG(x:ad)(i:Nat)(W:AW):Option (ad×AW):=match x with
 |.tuple vs=>(vs[i]?).map λv=>(v,W)
 |_=>none
def agI(P:ag)(x:ad)(t:af)(ok:Bool)(W:AW):Option (ad×AW):=match P.underlying t,x with
 |some (.interface _),_=>none
 |some _,.iface u v=>if u=t then some (if ok then .tuple #[v,.bool true]else v,W)else none
 |_,_=>none
def FX(P:ag)(t:af)(x:ad)(W:AW):Option (ad×AW):=match P.underlying t,x with
 |some .string,.string s=>some (Value.pointer (some ⟨W.next,0,none⟩),W.add (.rh s 0))
 |_,_=>none
def abO(it:ad)(W:AW):Option (ad×AW):=match it with
 |.pointer (some ⟨b,0,_⟩)=>match W.get b with
  |some (.rh s pos)=>if pos<s.size then some (.tuple #[.bool true,goInt pos,.int .i32 (Utf8.decode s pos).1],W.put b (.rh s (pos+(Utf8.decode s pos).2)))else some (.tuple #[.bool false],W)
  |_=>none
 |_=>none
def aV(P:ag)(b:Builtin)(ts:Array af)(ty:af)(cf:Array Bool)(args:List ad)(W:AW):Option (ad×AW):=
 match b,args with
 |.len,[.slice _ n _]=>match(ts[0]?).bind P.underlying with
  |some (.slice _)=>some (goInt n,W)
  |_=>none
 |.len,[.map none]=>match(ts[0]?).bind P.underlying with
  |some (.map _ _)=>some (goInt 0,W)
  |_=>none
 |.len,[.map (some r)]=>match(ts[0]?).bind P.underlying,W.get r with
  |some (.map _ _),some (.map es _)=>some (goInt es.length,W)
  |_,_=>none
 |.append,[s,x]=>D1 P W ts s x
 |.copy,[d,x]=>WO P W ts d x
 |.clear,[x]=>(Po P W ts x).map λW'=>(.tuple #[],W')
 |.delete,[m,k]=>(uz P W ts m k).map λW'=>(.tuple #[],W')
 |.unsafeSliceData,[x]=>(xv x).map λv=>(v,W)
 |.unsafeString,[p,n]=>qp P W ts p n
 |_,_=>(nX P (args.all bL) (builtin b ts ty cf args.toArray)).map λv=>(v,W)
def afq(P:ag)(call:Callee)(r:ad)(name:String)(args:List ad)(W:AW):Option (ad×AW):=match r with
 |.iface t v=>match wF P t name with
  |some f=>call (.func (.func f) #[] #[]) (v::args) W
  |none=>none
 |_=>none
def aif(x:au)(P:ag)(call:Callee)(o:am)(R:ai.Fr)(W:AW):Option (ad×AW):=dS (aF R x) W
def aqm(c a b:au)(P:ag)(call:Callee)(o:am)(R:ai.Fr)(W:AW):Option (ad×AW):=kH (aF R c) (aF R a) (aF R b) W
def ajz(t:af)(P:ag)(call:Callee)(o:am)(R:ai.Fr)(W:AW):Option (ad×AW):=dm P t W
def asV(t:af)(x:au)(P:ag)(call:Callee)(o:am)(R:ai.Fr)(W:AW):Option (ad×AW):=pP (aF R x) W
def aks(t:af)(ps:Array (Nat×au))(P:ag)(call:Callee)(o:am)(R:ai.Fr)(W:AW):Option (ad×AW):=dU P t (parts R ps) W
def P7(t:af)(n:Nat)(ps:Array (Nat×au))(P:ag)(call:Callee)(o:am)(R:ai.Fr)(W:AW):Option (ad×AW):=cJ P t n (parts R ps) W
def agw(_t:af)(_m _k _v:au)(P:ag)(call:Callee)(o:am)(R:ai.Fr)(W:AW):Option (ad×AW):=none
def ara(t:af)(a:au)(P:ag)(call:Callee)(o:am)(R:ai.Fr)(W:AW):Option (ad×AW):=jx P t (aF R a) W
def akN(t:af)(a x:au)(P:ag)(call:Callee)(o:am)(R:ai.Fr)(W:AW):Option (ad×AW):=alC P t (aF R a) (aF R x) W
def anT(_g:Nat)(P:ag)(call:Callee)(o:am)(R:ai.Fr)(W:AW):Option (ad×AW):=none
def Yw(x:au)(P:ag)(call:Callee)(o:am)(R:ai.Fr)(W:AW):Option (ad×AW):=sQ (aF R x) W
def ak8(op:BinOp)(t:af)(x y:au)(yt:af)(P:ag)(call:Callee)(o:am)(R:ai.Fr)(W:AW):Option (ad×AW):=bO P op t (oU x) (oU y) (aF R x) (aF R y) W
def anU(op:UnOp)(t:af)(x:au)(P:ag)(call:Callee)(o:am)(R:ai.Fr)(W:AW):Option (ad×AW):=oUn P op (aF R x) W
def ab1(s d:af)(x:au)(P:ag)(call:Callee)(o:am)(R:ai.Fr)(W:AW):Option (ad×AW):=tY P s d (aF R x) W
def kTO(_d:af)(_x:au)(P:ag)(call:Callee)(o:am)(R:ai.Fr)(W:AW):Option (ad×AW):=none
def JE(t:af)(x:au)(P:ag)(call:Callee)(o:am)(R:ai.Fr)(W:AW):Option (ad×AW):=RG P t (aF R x) W
def Zk(fn:Fn)(first li:Array au)(P:ag)(call:Callee)(o:am)(R:ai.Fr)(W:AW):Option (ad×AW):=uj fn (first.map (aF R)) (li.map (aF R)) W
def aa4(t:af)(r:Option au)(P:ag)(call:Callee)(o:am)(R:ai.Fr)(W:AW):Option (ad×AW):=vi P t (r.map (aF R)) W
def UA(t:af)(l c:au)(P:ag)(call:Callee)(o:am)(R:ai.Fr)(W:AW):Option (ad×AW):=gh P t (aF R l) (aF R c) W
def alv(t:af)(x:au)(lo hi mx:Option au)(P:ag)(call:Callee)(o:am)(R:ai.Fr)(W:AW):Option (ad×AW):=ft P t (aF R x) (lo.map (aF R)) (hi.map (aF R)) (mx.map (aF R)) W
def VE(s:af)(x:au)(f:Nat)(P:ag)(call:Callee)(o:am)(R:ai.Fr)(W:AW):Option (ad×AW):=Te P s (aF R x) f W
def amd(t:af)(x:au)(f:Nat)(P:ag)(call:Callee)(o:am)(R:ai.Fr)(W:AW):Option (ad×AW):=aj7 P t (aF R x) f W
def TW(t:af)(x i:au)(P:ag)(call:Callee)(o:am)(R:ai.Fr)(W:AW):Option (ad×AW):=UX P t (aF R x) (aF R i) W
def akx(t:af)(x i:au)(P:ag)(call:Callee)(o:am)(R:ai.Fr)(W:AW):Option (ad×AW):=rS P t (aF R x) (aF R i) W
def ahi(t:af)(m k:au)(ok:Bool)(P:ag)(call:Callee)(o:am)(R:ai.Fr)(W:AW):Option (ad×AW):=uN P t (aF R m) (aF R k) ok W
def Uu(t:af)(m k v:au)(P:ag)(call:Callee)(o:am)(R:ai.Fr)(W:AW):Option (ad×AW):=jI P t (aF R m) (aF R k) (aF R v) W
def atJ(_t:af)(_m _k:au)(P:ag)(call:Callee)(o:am)(R:ai.Fr)(W:AW):Option (ad×AW):=none
def aor(_t:af)(_m _s _v:au)(P:ag)(call:Callee)(o:am)(R:ai.Fr)(W:AW):Option (ad×AW):=none
def ajI(t:af)(x:au)(P:ag)(call:Callee)(o:am)(R:ai.Fr)(W:AW):Option (ad×AW):=FX P t (aF R x) W
def aot(it:au)(s:Bool)(P:ag)(call:Callee)(o:am)(R:ai.Fr)(W:AW):Option (ad×AW):=match s with
 |true=>abO (aF R it) W
 |false=>none
def kO(_it:au)(P:ag)(call:Callee)(o:am)(R:ai.Fr)(W:AW):Option (ad×AW):=none
def Qe(x:au)(_t a:af)(ok:Bool)(P:ag)(call:Callee)(o:am)(R:ai.Fr)(W:AW):Option (ad×AW):=agI P (aF R x) a ok W
def abA(x:au)(i:Nat)(P:ag)(call:Callee)(o:am)(R:ai.Fr)(W:AW):Option (ad×AW):=tG (aF R x) i W
def arl(c:Call)(P:ag)(call:Callee)(o:am)(R:ai.Fr)(W:AW):Option (ad×AW):=
 match c.callee with
 |.builtin b=>aV P b c.argTypes o.type (c.args.map oU) (c.args.toList.map (aF R)) W
 |.value f=>call (aF R f) (c.args.toList.map (aF R)) W
 |.invoke r name=>afq P call (aF R r) name (c.args.toList.map (aF R)) W
def kC(_c:Call)(P:ag)(call:Callee)(o:am)(R:ai.Fr)(W:AW):Option (ad×AW):=none
def kOO(_c _x:au)(P:ag)(call:Callee)(o:am)(R:ai.Fr)(W:AW):Option (ad×AW):=none
def arj(_t:af)(_c:au)(_ok:Bool)(P:ag)(call:Callee)(o:am)(R:ai.Fr)(W:AW):Option (ad×AW):=none
def afE(_cs:Array SelectCase)(_bl:Bool)(P:ag)(call:Callee)(o:am)(R:ai.Fr)(W:AW):Option (ad×AW):=none
def avL:Op->ag->Callee->am->ai.Fr->AW->Option (ad×AW):=
 Op.rec (motive:=λ_=>ag->Callee->am->ai.Fr->AW->Option (ad×AW)) aif aif aqm ajz asV aks P7 agw ara akN anT anT Yw ak8 anU ab1 kTO JE Zk aa4 kTO UA alv VE amd TW akx ahi Uu atJ aor ajI aot kO Qe abA arl kC kC kO kOO arj afE
def kOp(P:ag)(call:Callee)(o:am)(R:ai.Fr)(W:AW):Option (ad×AW):=avL o.op P call o R W
def Ax{P:ag}{R:ai.Fr}{o:am}(hs:AP o.op=true):ly P R o=nX P (o.op.operands.toList.all λx=>bL (aF R x)) (execOp (aF R) o):=by unfold ly nX;rw[hs,il];rfl
def all_map{α β:Type}(f:α->β)(p:β->Bool)(l:List α):(l.map f).all p=l.all λx=>p (f x):=by rw[List.all_map];rfl
def Q4(P:ag)(call:Callee)(dst:Option Tmp)(b:Builtin)(args:Array au)(ts:Array af)(ty:af)(pos:String)(after:Array Edge)(guard:Option (Nat×Bool))(R:ai.Fr)(W:AW):
 aV P b ts ty (args.map oU) (args.toList.map (aF R)) W=lz P ⟨dst,.call ⟨.builtin b,args,ts⟩,ty,pos,after,guard⟩ b ts (args.toList.map (aF R)) R W:=by
 have hf:nX P ((args.toList.map (aF R)).all bL) (builtin b ts ty (args.map oU) (args.toList.map (aF R)).toArray)=ly P R ⟨dst,.call ⟨.builtin b,args,ts⟩,ty,pos,after,guard⟩:=by
  rw[Ax rfl];have h1:((args.toList.map (aF R)).all bL)=((Op.call {callee:=Callee.builtin b,args:=args,argTypes:=ts}).operands.toList.all λx=>bL (aF R x)):=by
   rw[all_map];have:(Op.call {callee:=.builtin b,args:=args,argTypes:=ts}).operands=args:=by simp[Op.operands,Call.operands]
   rw[this]
  have h2:builtin b ts ty (args.map oU) (args.toList.map (aF R)).toArray=execOp (aF R) ⟨dst,.call ⟨.builtin b,args,ts⟩,ty,pos,after,guard⟩:=by
   have h4:args.map oU=args.map (λ|.const _=>true|_=>false):=by congr 1;funext x;cases x<;>rfl
   have h3:(args.toList.map (aF R)).toArray=args.map (aF R):=by apply qn.1;simp
   rw[h4,h3];symm;simp[execOp,resolve,invoke];rfl
  rw[h1,h2]
 unfold aV lz;rw[hf];rfl
def Wv:Op->Bool
 |.store .. =>true
 |_=>false
def ajl(P:ag)(call:Callee)(o:am)(R:ai.Fr)(W:AW)(hs:Wv o.op=false):kOp P call o R W=vA P call o R W:=by
 rw[AC];obtain⟨dst,op,type,pos,after,guard⟩:=o;cases op with
 |store t a x=>cases hs
 |pick c a b=>rfl
 |alloc t=>show dm P t W=_;(simp only[jB,LH,dm,AW.dX];try rfl)
 |box t x=>show pP (aF R x) W=_;simp only[jB,LH,pP,AW.dX]
 |buildSlice t len ps=>show cJ P t len (parts R ps) W=_;(simp only[jB,LH,cJ,nY,AW.dX];try rfl)
 |binOp op t x y yt=>show bO P op t (oU x) (oU y) (aF R x) (aF R y) W=_;simp only[jB,LH,bO];rw[Ax rfl,<-Ly];rfl
 |unOp op t x=>show oUn P op (aF R x) W=_;simp only[jB,LH,oUn];rw[Ax rfl];rfl
 |convert s d x=>show tY P s d (aF R x) W=_;simp only[jB,LH,tY];rw[Ax rfl];rfl
 |makeFunc fn a b=>cases fn<;>rfl
 |makeMap t r=>
  cases r with
  |none=>show vi P t none W=_;(simp only[jB,LH,vi,AW.dX];try rfl)
  |some r=>show vi P t (some (aF R r)) W=_;(simp only[jB,LH,vi,AW.dX];try rfl)
 |makeSlice t l c=>show gh P t (aF R l) (aF R c) W=_;(simp only[jB,LH,gh,pM,AW.dX];try rfl)
 |slice t x lo hi mx=>
  show ft P t (aF R x) (lo.map (aF R)) (hi.map (aF R)) (mx.map (aF R)) W=_;simp only[jB,LH,ft];rw[Ax rfl];have:(aF R x::((lo.map (aF R)).toList++((hi.map (aF R)).toList++(mx.map (aF R)).toList))).all bL=((Op.slice t x lo hi mx).operands.toList.all λx=>bL (aF R x)):=by cases lo<;>cases hi<;>cases mx<;>simp[Op.operands]
  rw[this];rfl
 |index t x i=>show rS P t (aF R x) (aF R i) W=_;simp only[jB,LH,rS];rw[Ax rfl];rfl
 |range t x=>show FX P t (aF R x) W=_;(simp only[jB,LH,FX,AW.dX];try rfl)
 |next it s=>cases s<;>rfl
 |call c=>
  obtain⟨callee,args,ts⟩:=c;cases callee with
  |builtin b=>exact Q4 P call dst b args ts type pos after guard R W
  |value f=>rfl
  |invoke r name=>rfl
 |_=>rfl
def TI{P:ag}{call:Callee}{o:am}{R:ai.Fr}{W:AW}{r:ad×AW}(h:kOp P call o R W=some r):vA P call o R W=some r:=by
 cases hs:Wv o.op with
 |false=>rw[<-ajl P call o R W hs];exact h
 |true=>
  rw[AC];obtain⟨dst,op,type,pos,after,guard⟩:=o;cases op<;>(try cases hs);rename_i t a x;have h':(D2 P W t (aF R a) (aF R x)).map (λW'=>(aj,W'))=some r:=h;simp only[jB,LH];cases hc:D2 P W t (aF R a) (aF R x)with
  |none=>rw[hc]at h';cases h'
  |some W'=>rw[hc]at h';rw[UD hc];exact h'
def bz(x:ad)(W:AW):Option (ad×AW):=(match x with
 |.pointer (some a)=>(match aH W a.block with
  |some cs=>ahb cs a.off
  |none=>none)
 |_=>none).map λv=>(v,W)
def dJ(n:Nat)(x:ad)(W:AW):Option (ad×AW):=(match x with
 |.pointer (some a)=>(pH W a.block a.off n).map λ(l:List ad)=>Value.agg l.toArray
 |_=>none).map λv=>(v,W)
def eZ(n:Nat)(x v:ad)(W:AW):Option (ad×AW):=(match x with
 |.pointer (some a)=>if v.cells.size=n then FD W a.block a.off v.cells.toList else none
 |_=>none).map λW'=>(aj,W')
def jp(off:Nat)(x:ad)(W:AW):Option (ad×AW):=match x with
 |.pointer (some a)=>some (.pointer (some (a.add off)),W)
 |_=>none
def pc(z:Nat)(x i:ad)(W:AW):Option (ad×AW):=match x,lY i with
 |.slice (some a) len _,some n=>if n<len then some (.pointer (some (a.add (n*z))),W)else none
 |_,_=>none
def ixA(len z:Nat)(x i:ad)(W:AW):Option (ad×AW):=match x,lY i with
 |.pointer (some a),some n=>if n<len then some (.pointer (some (a.add (n*z))),W)else none
 |_,_=>none
end
section
variable [ai]
def apa:∃f:(∀(α ρ:Type),Option α->(α->Option ρ)->Option ρ),f=λ_ _ x g=>x.bind g:=⟨_,rfl⟩
def fb{α ρ:Type}(x:Option α)(g:α->Option ρ):Option ρ:=Classical.choose apa α ρ x g
def Kt{α ρ:Type}(x:Option α)(g:α->Option ρ):fb x g=x.bind g:=by unfold fb;rw[xn apa]
abbrev KT(ρ:Type):=X->ai.Fr->AW->Option ρ
abbrev LT:=X×ai.Fr×AW
def tn(v:ad)(w:Bool):Bool:=match v with|.bool b=>b==w|_=>false
def Q1(ops:Array am)(R:ai.Fr)(o:am):Bool:=match o.guard with
 |none=>true
 |some (j,w)=>match(ops[j]?).bind (·.dst)with
  |some t=>tn (dy R t) w
  |none=>false
def SA(ops:Array am)(R:ai.Fr)(o:am):Q1 ops R o=jT ops R o:=by
 unfold Q1 jT;cases o.guard with
 |none=>rfl
 |some p=>obtain⟨j,w⟩:=p;simp only;cases(ops[j]?).bind (·.dst)<;>rfl
def qJ{ρ:Type}(c:Bool)(a b:ρ):ρ:=Bool.rec (motive:=λ_=>ρ) b a c
def yo(P:ag)(call:Callee)(ops:Array am)(o:am)(R:ai.Fr)(W:AW):Option (ad×AW):=
 qJ (Q1 ops R o) (kOp P call o R W) (some (aj,W))
def mvO:Op->Option au:=Op.rec (motive:=λ_=>Option au) some some (λ_ _ _=>none) (λ_=>none) (λ_ _=>none) (λ_ _=>none) (λ_ _ _=>none) (λ_ _ _ _=>none) (λ_ _=>none) (λ_ _ _=>none) (λ_=>none) (λ_=>none) (λ_=>none) (λ_ _ _ _ _=>none) (λ_ _ _=>none) (λ_ _ _=>none) (λ_ _=>none) (λ_ _=>none) (λ_ _ _=>none) (λ_ _=>none) (λ_ _=>none) (λ_ _ _=>none) (λ_ _ _ _ _=>none) (λ_ _ _=>none) (λ_ _ _=>none) (λ_ _ _=>none) (λ_ _ _=>none) (λ_ _ _ _=>none) (λ_ _ _ _=>none) (λ_ _ _=>none) (λ_ _ _ _=>none) (λ_ _=>none) (λ_ _=>none) (λ_=>none) (λ_ _ _ _=>none) (λ_ _=>none) (λ_=>none) (λ_=>none) (λ_=>none) (λ_=>none) (λ_ _=>none) (λ_ _ _=>none) (λ_ _=>none)
def mvG(o:am):Option au:=Option.rec (motive:=λ_=>Option au) (mvO o.op) (λ_=>none) o.guard
def St(P:ag)(call:Callee)(ops:Array am){ρ:Type}(K:ai.Fr->AW->Option ρ)(l:List am):ai.Fr->AW->Option ρ:=
 List.rec (motive:=λ_=>ai.Fr->AW->Option ρ) (λR W=>K R W) (λo _ ih R W=>Option.rec (motive:=λ_=>Option ρ) (fb (yo P call ops o R W) λr=>ih (iU R o.dst r.1) r.2) (λx=>ih (iU R o.dst (aF R x)) W) (mvG o)) l
def kA(w:Bool)(r:Option (ad×AW))(v:ad):Bool:=qJ w (match r with|some (u,_)=>iD u v|none=>false) true
def agN(w:Bool)(r:Option (ad×AW)):Bool:=qJ w r.isSome true
def FV(P:ag)(call:Callee)(ops:Array am)(R:ai.Fr)(W:AW)(j:Nat):Bool:=match ops[j]? with
 |none=>false
 |some o=>match o.dst with
  |some t=>kA (Q1 ops R o) (kOp P call o R W) (dy R t)
  |none=>agN (Q1 ops R o) (kOp P call o R W)
def Qp(P:ag)(call:Callee)(ops:Array am){ρ:Type}(K:ai.Fr->AW->Option ρ)(l:List (Nat×List Nat)):ai.Fr->AW->Option ρ:=
 List.rec (motive:=λ_=>ai.Fr->AW->Option ρ) (λR W=>K R W) (λp _ ih R W=>match ops[p.1]? with
  |none=>none
  |some o=>Option.rec (motive:=λ_=>Option ρ) (fb (yo P call ops o R W) λr=>qJ (p.2.all (FV P call ops (iU R o.dst r.1) r.2)) (ih (iU R o.dst r.1) r.2) none) (λx=>ih (iU R o.dst (aF R x)) W) (List.rec (motive:=λ_=>Option au) (mvG o) (λ_ _ _=>none) p.2)) l
def yn{ρ:Type}(x:X)(a b:Option ρ):Option ρ:=X.rec (motive:=λ_=>Option ρ) a (λ_=>b) b x
def BY{ρ:Type}(id:Nat)(x:X)(a b:Option ρ):Option ρ:=X.rec (motive:=λ_=>Option ρ) b (λi=>qJ (Nat.beq i id) a b) b x
def akZ{ρ:Type}(x:X)(a:Option ρ):Option ρ:=X.rec (motive:=λ_=>Option ρ) a (λ_=>none) a x
def PE{ρ:Type}(v:ad)(a b:Option ρ):Option ρ:=match v with|.bool c=>qJ c a b|_=>none
abbrev CT:=∀ρ:Type,ai.Fr->AW->KT ρ->Option ρ
def nG:KT LT:=λx R W=>some (x,R,W)
def aly:CT:=λ_ R W K=>K .normal R W
def IP(P:ag)(call:Callee)(id:Nat)(ops:Array am)(Ft:Bool):CT:=λ_ R W K=>match Ft with
 |false=>St P call ops (K .normal) ops.toList R W
 |true=>match ai.D id ops with
  |none=>St P call ops (K .normal) ops.toList R W
  |some pl=>Qp P call ops (K .normal) pl R W
def aol(_ _:bU)(ia ib:CT):CT:=λρ R W K=>ia ρ R W λx R' W'=>X.rec (motive:=λ_=>Option ρ) (ib ρ R' W' K) (λ_=>K x R' W') (K x R' W') x
def amK(c:au)(_ _:bU)(ia ib:CT):CT:=λρ R W K=>PE (aF R c) (ia ρ R W K) (ib ρ R W K)
def ahG(id:Nat)(_:bU)(ib:CT):CT:=λρ R W K=>ib ρ R W λx R' W'=>X.rec (motive:=λ_=>Option ρ) (K x R' W') (λi=>Bool.rec (motive:=λ_=>Option ρ) (K x R' W') (K .normal R' W') (Nat.beq i id)) (K x R' W') x
def apo(i:Nat):List Nat->List Nat:=List.rec [i] λx l ih=>Bool.rec (x::ih) (x::l) (Nat.beq x i)
def Vg(a b:List Nat):List Nat:=List.rec b (λx _ ih=>apo x ih) a
def an7(i:Nat)(a:List Nat):List Nat:=List.rec [] (λx _ ih=>Bool.rec (x::ih) ih (Nat.beq x i)) a
def ZY:bU->List Nat×Bool:=
 Code.rec (motive:=λ_=>List Nat×Bool) ([],false) (λ_ _ _=>([],false)) (λ_ _ a b=>(Vg a.1 b.1,a.2||b.2)) (λ_ _ _ a b=>(Vg a.1 b.1,a.2||b.2)) (λi _ b=>(an7 i b.1,b.2)) (λ_ b=>b)
  (λ_ _ _ _ a b=>(Vg a.1 b.1,a.2||b.2)) (λi=>([i],false)) (λ_ b=>b) (λ_=>([],false)) (λ_=>([],false)) ([],true) (λ_=>([],false))
def I9{ρ:Type}(x:X)(a:Option ρ):Option ρ:=X.rec (motive:=λ_=>Option ρ) none (λ_=>none) a x
def Ah{ρ:Type}(x:X)(k:X->Option ρ)(ret:Bool)(l:List Nat):Option ρ:=
 List.rec (motive:=λ_=>Option ρ) (qJ ret (I9 x (k .ret)) none) (λi _ ih=>BY i x (k (.exit i)) ih) l
def pZ{ρ:Type}{x:X}{k:X->Option ρ}{ret:Bool}{r:ρ}:∀{l:List Nat},Ah x k ret l=some r->k x=some r
 |[],h=>by
  cases ret with
  |false=>cases h
  |true=>cases x<;>first|exact h|cases h
 |i::l,h=>by
  cases x with
  |normal=>exact pZ (l:=l) h
  |ret=>exact pZ (l:=l) h
  |exit j=>
   have h':qJ (Nat.beq j i) (k (.exit i)) (Ah (.exit j) k ret l)=some r:=h;cases hb:Nat.beq j i with
   |true=>rw[hb]at h';have:=AU hb;subst this;exact h'
   |false=>rw[hb]at h';exact pZ (l:=l) h'
def ai7:∃f:(ai.Fr->AW->Option LT)->Nat->ai.Fr->AW->Option LT,f=mL:=⟨mL,rfl⟩
def fZ:(ai.Fr->AW->Option LT)->ai.Fr->AW->Option LT:=λf=>Classical.choose ai7 f 1000000
def Sd(f:ai.Fr->AW->Option LT):fZ f=mL f 1000000:=by unfold fZ;rw[xn ai7]
def alP(b:bU)(ib:CT):CT:=λ_ R W K=>fb (fZ (λR W=>ib LT R W nG) R W) λr=>Ah r.1 (λx=>K x r.2.1 r.2.2) (ZY b).2 (ZY b).1
def ll(call:Callee)(f:ad)(obj:dI)(W:AW):Option (X×AW):=match f with
 |.func (.func i) fs cs=>match call (.func (.func i) fs cs) [.func (.yield W.next) #[] #[]] (W.add obj)with
  |some (_,W2)=>match W2.get W.next with
   |some (.loop st qU _ _ _ _ _)=>(match st with
    |.busy=>none
    |_=>match qU with
     |none=>some (.normal,W2.kill W.next)
     |some (.exit i)=>some (.exit i,W2.kill W.next)
     |some .ret=>some (.ret,W2.kill W.next)
     |_=>none)
   |_=>none
  |none=>none
 |_=>none
def Pj(call:Callee)(top:Bool)(nt:Nat)(f:au)(ps:Array Tmp)(aC4 bd:bU)(_ _:CT):CT:=λ_ R W K=>match top with
 |false=>none
 |true=>fb (ll call (aF R f) (.loop .ready none R nt ps aC4 bd) W) λr=>yn r.1 (K .normal R r.2) (Ah r.1 (λx=>K x R r.2) (ZY bd).2 (ZY bd).1)
def aji(id:Nat):CT:=λ_ R W K=>K (.exit id) R W
def aov:CT:=λ_ R W K=>K .ret R W
def ahd(_:Nat):CT:=λ_ R W K=>K .normal R W
def alh(_:Nat):CT:=λ_ _ _ _=>none
def af7(_:bU)(_:CT):CT:=λ_ _ _ _=>none
def aex(_:String):CT:=λ_ _ _ _=>none
def ga(P:ag)(call:Callee)(top:Bool)(nt:Nat):bU->CT:=
 Code.rec (motive:=λ_=>CT) aly (IP P call) aol amK ahG alP (Pj call top nt) aji af7 ahd alh aov aex
section
variable {P:ag} {call:Callee}
def KI{ops:Array am}{o:am}{R:ai.Fr}{W:AW}{r:ad×AW}(h:yo P call ops o R W=some r):nN P call ops o R W=some (iU R o.dst r.1,r.2):=by
 unfold yo at h;unfold nN;rw[SA]at h;cases hw:jT ops R o with
 |true=>rw[hw]at h;rw[an rfl];have h':kOp P call o R W=some r:=h;rw[TI h']
 |false=>rw[hw]at h;rw[ap (by simp)];have h':some (aj,W)=some r:=h;injection h' with h';subst h';rfl
def aed{op:Op}{x:au}(h:mvO op=some x):op=.move x\/op=.assign x:=by cases op<;>first|(injection h with h;subst h;first|exact .inl rfl|exact .inr rfl)|cases h
def Xj{ops:Array am}{o:am}{R:ai.Fr}{W:AW}{x:au}(h:mvG o=some x):nN P call ops o R W=some (iU R o.dst (aF R x),W):=by
 have hk:yo P call ops o R W=some (aF R x,W):=by
  obtain⟨dst,op,type,pos,after,guard⟩:=o;cases guard with
  |some g=>cases h
  |none=>rcases aed h with rfl|rfl<;>rfl
 rw[KI hk]
def Xl{ops:Array am}{ρ:Type}{K:ai.Fr->AW->Option ρ}{r:ρ}:∀(l:List am) (R:ai.Fr) (W:AW),St P call ops K l R W=some r->(tI P call ops l R W).bind (λq=>K q.1 q.2)=some r:=by
 intro l;induction l with
 |nil=>intro R W h;exact h
 |cons o l ih=>
  intro R W h;cases hm:mvG o with
  |some x=>have h':Option.rec (motive:=λ_=>Option ρ) (fb (yo P call ops o R W) λr=>St P call ops K l (iU R o.dst r.1) r.2) (λx=>St P call ops K l (iU R o.dst (aF R x)) W) (mvG o)=some r:=h;rw[hm]at h';rw[tI,Xj hm];exact ih _ _ h'
  |none=>
  have h0:Option.rec (motive:=λ_=>Option ρ) (fb (yo P call ops o R W) λr=>St P call ops K l (iU R o.dst r.1) r.2) (λx=>St P call ops K l (iU R o.dst (aF R x)) W) (mvG o)=some r:=h;rw[hm]at h0;have h':fb (yo P call ops o R W) (λr=>St P call ops K l (iU R o.dst r.1) r.2)=some r:=h0;rw[Kt]at h';cases hk:yo P call ops o R W with
  |none=>rw[hk]at h';cases h'
  |some q=>rw[hk]at h';rw[tI,KI hk];exact ih _ _ h'
def XG{ops:Array am}{R:ai.Fr}{W:AW}(j:Nat)(h:FV P call ops R W j=true):uP P call ops R W j=true:=by
 unfold FV at h;unfold uP;cases ho:ops[j]? with
 |none=>rw[ho]at h;cases h
 |some o=>
  rw[ho]at h;simp only at h|-;rw[SA]at h;cases hd:o.dst with
  |none=>
   rw[hd]at h;simp only[agN]at h;simp only;cases hw:jT ops R o with
   |false=>rfl
   |true=>rw[hw]at h;have h':(kOp P call o R W).isSome=true:=h;obtain⟨q,hq⟩:=Option.isSome_iff_exists.1 h';rw[TI hq];rfl
  |some t=>
   rw[hd]at h;simp only[kA]at h;simp only;cases hw:jT ops R o with
   |false=>rfl
   |true=>
    rw[hw]at h;have h':(match kOp P call o R W with|some (u,_)=>iD u (dy R t)|none=>false)=true:=h;cases hq:kOp P call o R W with
    |none=>rw[hq]at h';cases h'
    |some q=>rw[hq]at h';rw[TI hq];exact h'
def ac3{ops:Array am}{ρ:Type}{K:ai.Fr->AW->Option ρ}{r:ρ}:∀(l:List (Nat×List Nat)) (R:ai.Fr) (W:AW),Qp P call ops K l R W=some r->(mO P call ops l R W).bind (λq=>K q.1 q.2)=some r:=by
 intro l;induction l with
 |nil=>intro R W h;exact h
 |cons p l ih=>
  intro R W h;obtain⟨i,re⟩:=p
  have h0:(match ops[i]? with
   |none=>none
   |some o=>Option.rec (motive:=λ_=>Option ρ) (fb (yo P call ops o R W) λr=>qJ (re.all (FV P call ops (iU R o.dst r.1) r.2)) (Qp P call ops K l (iU R o.dst r.1) r.2) none) (λx=>Qp P call ops K l (iU R o.dst (aF R x)) W) (List.rec (motive:=λ_=>Option au) (mvG o) (λ_ _ _=>none) re))=some r:=h;rw[mO];cases ho:ops[i]? with
  |none=>rw[ho]at h0;cases h0
  |some o=>
   rw[ho]at h0;simp only at h0|-;cases hm:(List.rec (motive:=λ_=>Option au) (mvG o) (λ_ _ _=>none) re:Option au)with
   |some x=>
    rw[hm]at h0;cases re with
    |cons _ _=>cases hm
    |nil=>rw[Xj hm];exact ih _ _ h0
   |none=>
   rw[hm]at h0;have h':fb (yo P call ops o R W) (λr=>qJ (re.all (FV P call ops (iU R o.dst r.1) r.2)) (Qp P call ops K l (iU R o.dst r.1) r.2) none)=some r:=h0;rw[Kt]at h';cases hk:yo P call ops o R W with
   |none=>rw[hk]at h';cases h'
   |some q=>
    rw[hk]at h';rw[KI hk];simp only[bJ]at h'|-;cases ha:re.all (FV P call ops (iU R o.dst q.1) q.2)with
    |false=>rw[ha]at h';cases h'
    |true=>
     rw[ha]at h';have:re.all (uP P call ops (iU R o.dst q.1) q.2)=true:=by rw[db]at ha|-;exactλj hj=>XG j (ha j hj)
     rw[an this];exact ih _ _ h'
def JF{f g:ai.Fr->AW->Option LT}(h:∀R W r,f R W=some r->g R W=some r):∀(n:Nat) (R:ai.Fr) (W:AW) (r:LT),mL f n R W=some r->mL g n R W=some r:=by
 intro n;induction n with
 |zero=>intro R W r hr;cases hr
 |succ n ih=>
  intro R W r hr;unfold mL at hr|-;cases hf:f R W with
  |none=>rw[hf]at hr;cases hr
  |some q=>
   rw[h _ _ _ hf];rw[hf]at hr;obtain⟨x,R',W'⟩:=q;cases x with
   |normal=>exact ih _ _ _ hr
   |exit i=>exact hr
   |ret=>exact hr
def Rb{top:Bool}{nt:Nat}:∀(c:bU) (ρ:Type) (R:ai.Fr) (W:AW) (K:KT ρ) (r:ρ),ga P call top nt c ρ R W K=some r->(cz P call top nt c R W).bind (λr=>K r.1 r.2.1 r.2.2)=some r:=by
 intro c;induction c with
 |skip=>intro ρ R W K r h;exact h
 |label l=>intro ρ R W K r h;exact h
 |exit id=>intro ρ R W K r h;exact h
 |ret=>intro ρ R W K r h;exact h
 |goto l=>intro ρ R W K r h;exact h
 |scope b _=>intro ρ R W K r h;cases h
 |refuse s=>intro ρ R W K r h;cases h
 |region id ops Ft=>
  intro ρ R W K r h;have h:IP P call id ops Ft ρ R W K=some r:=h;unfold IP at h;unfold cz;cases Ft with
  |false=>
   simp only at h|-;have:=Xl _ _ _ h;cases ha:tI P call ops ops.toList R W with
   |none=>rw[ha]at this;cases this
   |some q=>rw[ha]at this;exact this
  |true=>
   simp only at h|-;cases hd:ai.D id ops with
   |none=>
    rw[hd]at h;simp only at h|-;have:=Xl _ _ _ h;cases ha:tI P call ops ops.toList R W with
    |none=>rw[ha]at this;cases this
    |some q=>rw[ha]at this;exact this
   |some pl=>
    rw[hd]at h;simp only at h|-;have:=ac3 _ _ _ h;cases ha:mO P call ops pl R W with
    |none=>rw[ha]at this;cases this
    |some q=>rw[ha]at this;exact this
 |seq a b iha S0=>
  intro ρ R W K r h;have h1:=iha ρ R W _ r h;rw[cz];cases ha:cz P call top nt a R W with
  |none=>rw[ha]at h1;cases h1
  |some q=>
   rw[ha]at h1;obtain⟨x,R',W'⟩:=q;cases x with
   |normal=>exact S0 _ _ _ _ _ h1
   |exit i=>exact h1
   |ret=>exact h1
 |cond c a b iha S0=>
  intro ρ R W K r h;have h':PE (aF R c) (ga P call top nt a ρ R W K) (ga P call top nt b ρ R W K)=some r:=h;rw[cz];cases hc:aF R c with
  |bool d=>
   rw[hc]at h';cases d with
   |true=>exact iha _ _ _ _ _ h'
   |false=>exact S0 _ _ _ _ _ h'
  |_=>rw[hc]at h';cases h'
 |block id b ih=>
  intro ρ R W K r h;have h1:=ih ρ R W _ r h;rw[cz];cases ha:cz P call top nt b R W with
  |none=>rw[ha]at h1;cases h1
  |some q=>
   rw[ha]at h1;obtain⟨x,R',W'⟩:=q;cases x with
   |normal=>exact h1
   |ret=>exact h1
   |exit i=>
    have h2:qJ (Nat.beq i id) (K .normal R' W') (K (.exit i) R' W')=some r:=h1;by_cases hi:i=id
    ·subst hi;rw[uC]at h2;simp only[bi,bJ];exact h2
    ·have:Nat.beq i id=false:=by
      cases hb:Nat.beq i id with
      |true=>exact absurd (AU hb) hi
      |false=>rfl
     rw[this]at h2;simp only[ap hi,bJ];exact h2
 |loop b ih=>
  intro ρ R W K r h;have h':fb (fZ (λR W=>ga P call top nt b LT R W nG) R W) (λq=>Ah q.1 (λx=>K x q.2.1 q.2.2) (ZY b).2 (ZY b).1)=some r:=h;rw[Kt,Sd]at h';cases hl:mL (λR W=>ga P call top nt b LT R W nG) 1000000 R W with
  |none=>rw[hl]at h';cases h'
  |some q=>
   rw[hl]at h';have:=JF (g:=cz P call top nt b) (λR W q hq=>by
    have:=ih LT R W nG q hq;cases ha:cz P call top nt b R W with
    |none=>rw[ha]at this;cases this
    |some q'=>rw[ha]at this;exact this) _ _ _ _ hl;rw[cz,this];exact pZ (show Ah q.1 (λx=>K x q.2.1 q.2.2) (ZY b).2 (ZY b).1=some r from h')
 |rangeFunc f ps aC4 bd _ _=>
  intro ρ R W K r h;have h':Pj call top nt f ps aC4 bd (ga P call top nt aC4) (ga P call top nt bd) ρ R W K=some r:=h;unfold Pj at h';cases top with
  |false=>cases h'
  |true=>
   simp only[Kt]at h';have h2:(ll call (aF R f) (.loop .ready none R nt ps aC4 bd) W).bind (λq=>K q.1 R q.2)=some r:=by
    cases ho:ll call (aF R f) (.loop .ready none R nt ps aC4 bd) W with
    |none=>rw[ho]at h';cases h'
    |some q=>
     rw[ho]at h';obtain⟨x,W'⟩:=q;cases x with
     |normal=>exact h'
     |exit i=>exact pZ (show Ah (.exit i) (λx=>K x R W') (ZY bd).2 (ZY bd).1=some r from h')
     |ret=>exact pZ (show Ah .ret (λx=>K x R W') (ZY bd).2 (ZY bd).1=some r from h')
   rw[<-h2];unfold cz ll;simp only;cases aF R f with
   |func fn fs cs=>
    cases fn with
    |func i=>
     simp only[AW.dX];cases call (.func (.func i) fs cs) [.func (.yield W.next) #[] #[]] (W.add (.loop .ready none R nt ps aC4 bd))with
     |none=>rfl
     |some r=>
      obtain⟨v,W2⟩:=r;simp only;cases W2.get W.next with
      |none=>rfl
      |some obj=>
       cases obj with
       |loop st qU tm n p a b=>
        cases st<;>simp only<;>(cases qU with
         |none=>rfl
         |some c=>cases c<;>rfl)
       |_=>rfl
    |_=>rfl
   |_=>rfl
def MH{top:Bool}{nt:Nat}{c:bU}{R:ai.Fr}{W:AW}{r:LT}(h:ga P call top nt c LT R W nG=some r):cz P call top nt c R W=some r:=by
 have:=Rb c LT R W nG r h;cases ha:cz P call top nt c R W with
 |none=>rw[ha]at this;cases this
 |some q=>rw[ha]at this;exact this
end
def wv(P:ag)(W:AW):List (ad×Option af)->Option (List ad)
 |[]=>some []
 |(v,none)::l=>match wv P W l with
  |some vs=>some (v::vs)
  |none=>none
 |(a,some t)::l=>match mh P W t a with
  |some v=>match wv P W l with
   |some vs=>some (v::vs)
   |none=>none
  |none=>none
def iX(P:ag)(l:List (ad×Option af))(W:AW):Option (ad×AW):=match wv P W l with
 |some [v]=>some (v,W)
 |some vs=>some (.tuple vs.toArray,W)
 |none=>none
def rv(R:ai.Fr):ResultVar->ad×Option af:=ResultVar.rec (λt=>(dy R t,none)) (λa t=>(dy R a,some t))
def IM(P:ag)(W:AW)(R:ai.Fr):∀l:List ResultVar,LI P W R l=wv P W (l.map (rv R))
 |[]=>rfl
 |.tmp t::l=>by show(match LI P W R l with|some vs=>some (dy R t::vs)|none=>none)=(match wv P W (l.map (rv R))with|some vs=>some (dy R t::vs)|none=>none);rw[IM P W R l]
 |.cell a t::l=>by show(match mh P W t (dy R a)with|some v=>(match LI P W R l with|some vs=>some (v::vs)|none=>none)|none=>none)=(match mh P W t (dy R a)with|some v=>(match wv P W (l.map (rv R))with|some vs=>some (v::vs)|none=>none)|none=>none);rw[IM P W R l]
def abX(P:ag)(call:Callee)(nt:Nat)(c:bU)(rs:Array ResultVar)(auY:List ad)(W:AW):Option (ad×AW):=
 ga P call true nt c (ad×AW) (cG 0 auY ai.blank) W λx R W'=>X.rec (motive:=λ_=>Option (ad×AW)) (iX P (rs.toList.map (rv R)) W') (λ_=>none) (iX P (rs.toList.map (rv R)) W') x
def ZA{P:ag}{bad:List Nat}{spec call:Callee}{i:Nat}{fn:iC}{c:bU}(hb:PG i bad=false)(hf:P.funcs[i]? =some fn)(hc:fn.body=some c){fs cs:Array ad}{args:List ad}
 (hn:Nat.ble (fs.toList.length+(args.length+cs.toList.length)) fn.ntmps=true){W:AW}{r:ad×AW}(h:abX P call fn.ntmps c fn.results (fs.toList++(args++cs.toList)) W=some r):
 nM P bad spec call (.func (.func i) fs cs) args W=some r:=by
 unfold abX at h;have h1:=Rb _ _ _ _ _ _ h;unfold nM;simp only[hb,hf,hc,hn];cases ha:cz P call true fn.ntmps c (cG 0 (fs.toList++(args++cs.toList)) ai.blank) W with
 |none=>rw[ha]at h1;cases h1
 |some q=>
  rw[ha]at h1;obtain⟨x,R,W'⟩:=q;simp only[bJ]at h1;rw[<-h1];unfold wl iX;simp only[IM];cases x with
  |exit id=>rfl
  |normal=>simp only[];rcases wv P W' (fn.results.toList.map (rv R))with _|_|⟨v,_|⟨u,l⟩⟩<;>rfl
  |ret=>simp only[];rcases wv P W' (fn.results.toList.map (rv R))with _|_|⟨v,_|⟨u,l⟩⟩<;>rfl
def Pg(P:ag)(call:Callee)(l:Nat)(nt:Nat)(aC4 bd:bU)(R:ai.Fr)(W:AW):Option (ad×AW):=
 (ga P call false nt aC4 LT R W nG).bind λr1=>yn r1.1 (match r1.2.2.get l with
  |some (.loop .ready pd9 R9 W9 Wj Xo Xf)=>(ga P call false nt bd LT r1.2.1 (r1.2.2.put l (.loop .busy pd9 R9 W9 Wj Xo Xf)) nG).bind λr2=>(match r2.2.2.get l with
   |some (.loop _ _ R8 nt8 ps8 as8 bd8)=>(match r2.1 with
    |.normal=>some (.bool true,r2.2.2.put l (.loop .ready none R8 nt8 ps8 as8 bd8))
    |x=>some (.bool false,r2.2.2.put l (.loop .done x.jump R8 nt8 ps8 as8 bd8)))
   |_=>none)
  |_=>none) none
def Qq{P:ag}{bad:List Nat}{spec call:Callee}{l nt:Nat}{R:ai.Fr}{ps:Array Tmp}{aC4 bd:bU}{W:AW}(hl:W.get l=some (.loop .ready none R nt ps aC4 bd)){fs cs:Array ad}{args:List ad}(hn:fs.toList.length+args.length=ps.size)
 {r:ad×AW}(h:Pg P call l nt aC4 bd (nT ps.toList (fs.toList++args) R) W=some r):
 nM P bad spec call (.func (.yield l) fs cs) args W=some r:=by
 unfold Pg at h;have hb:Nat.beq (fs.toList.length+args.length) ps.size=true:=by rw[hn];exact uC _
 unfold nM;simp only[hl,hb];cases h1:ga P call false nt aC4 LT (nT ps.toList (fs.toList++args) R) W nG with
 |none=>rw[h1]at h;cases h
 |some q=>
  rw[h1]at h;rw[MH h1];obtain⟨x,R1,W1⟩:=q;simp only[bJ]at h;cases x with
  |exit id=>cases h
  |ret=>cases h
  |normal=>
   simp only[yn]at h|-;cases hg:W1.get l with
   |none=>rw[hg]at h;cases h
   |some obj=>
    rw[hg]at h;cases obj with
    |loop st pd9 R9 W9 Wj Xo Xf=>
     cases st with
     |ready=>
      simp only at h|-;cases h2:ga P call false nt bd LT R1 (W1.put l (.loop .busy pd9 R9 W9 Wj Xo Xf)) nG with
      |none=>rw[h2]at h;cases h
      |some q2=>
       rw[h2]at h;rw[MH h2];obtain⟨x2,R2,W2⟩:=q2;simp only[bJ]at h|-;cases rX:W2.get l with
       |none=>rw[rX]at h;cases h
       |some avx=>
        rw[rX]at h;cases avx with
        |loop st8 pd8 R8 nt8 ps8 as8 bd8=>cases x2<;>exact h
        |_=>cases h
     |_=>cases h
    |_=>cases h
end
def aa5(R:Nat->ad)(t:Nat)(v:ad):Nat->ad:=λu=>Bool.rec (motive:=λ_=>ad) (R u) v (Nat.beq u t)
def aj5:Nat->ad:=λ_=>aj
def Y3(R:Nat->ad)(t:Nat)(v:ad):aa5 R t v t=v:=by unfold aa5;rw[uC]
def agF(R:Nat->ad)(t u:Nat)(v:ad)(h:t≠u):aa5 R t v u=R u:=by
 unfold aa5;have:Nat.beq u t=false:=by
  cases hb:Nat.beq u t with
  |true=>exact absurd (AU hb).symm h
  |false=>rfl
 rw[this]
@[reducible] noncomputable def alB (D:Nat->Array am->Option (List (Nat×List Nat))) (ng:List Nat) (ex:af->Bool:=λ_=>false):ai where
 D:=D
 ex:=ex
 ng:=ng
 Fr:=Nat->ad
 I5:=λR t=>R t
 abU:=aa5
 blank:=aj5
 oX:=Y3
 iL:=agF
 E5:=λ_=>rfl
def aqM(g:Nat):ad:=.pointer (some ⟨g,0,none⟩)
def vX(f:jU):ad:=.func (.func f) #[] #[]
def al6(l:List Nat):ByteArray:=⟨(l.map UInt8.ofNat).toArray⟩
def Gk(l:List Nat):ad:=.string (al6 l)
def Ph(P:ag)(i:Nat):bU:=match P.funcs[i]? with
 |some fn=>(match fn.body with
  |some c=>c
  |none=>.skip)
 |none=>.skip
def ad7(P:ag)(i:Nat):Array ResultVar:=match P.funcs[i]? with
 |some fn=>fn.results
 |none=>#[]
def BF:List Nat->bU->bU
 |[],c=>c
 |n::p,c=>match c with
  |.seq a b=>BF p (if n=0 then a else b)
  |.cond _ a b=>BF p (if n=0 then a else b)
  |.rangeFunc _ _ a b=>BF p (if n=0 then a else b)
  |.block _ b=>BF p b
  |.loop b=>BF p b
  |.scope b=>BF p b
  |_=>.skip
section
variable [ai]
def QI(c d:Callee):Prop:=∀f a W r,c f a W=some r->d f a W=some r
def QI.refl(c:Callee):QI c c:=λ_ _ _ _ h=>h
def QI.trans{a b c:Callee}(h:QI a b)(k:QI b c):QI a c:=λf x W r e=>k _ _ _ _ (h _ _ _ _ e)
section
variable {P:ag}
def Sa(P:ag)(o:am)(R:ai.Fr)(W:AW):(∀c d:Callee,vA P c o R W=vA P d o R W)\/∃f a,∀c:Callee,vA P c o R W=c f a W:=by
 simp only[AC];obtain⟨dst,op,type,pos,after,guard⟩:=o;cases op with
 |call k=>
  obtain⟨callee,args,ts⟩:=k;cases callee with
  |builtin b=>exact .inl λ_ _=>rfl
  |value f=>exact .inr ⟨_,_,λ_=>rfl⟩
  |invoke r name=>
   simp only[jB];cases aF R r with
   |iface t v=>
    simp only;cases wF P t name with
    |none=>exact .inl λ_ _=>rfl
    |some f=>exact .inr ⟨_,_,λ_=>rfl⟩
   |_=>exact .inl λ_ _=>rfl
 |_=>exact .inl λ_ _=>rfl
def Xm{c d:Callee}(h:QI c d){o:am}{R:ai.Fr}{W:AW}{r:ad×AW}(e:vA P c o R W=some r):vA P d o R W=some r:=by
 rcases Sa P o R W with hd|⟨f,a,hd⟩
 ·rw[<-e];exact hd _ _
 ·rw[hd]at e|-;exact h _ _ _ _ e
def EP{c d:Callee}(h:QI c d){ops:Array am}{o:am}{R:ai.Fr}{W:AW}{r:ai.Fr×AW}(e:nN P c ops o R W=some r):nN P d ops o R W=some r:=by
 unfold nN at e|-;split
 ·rename_i hw;rw[an hw]at e;cases ho:vA P c o R W with
  |none=>rw[ho]at e;cases e
  |some q=>rw[ho]at e;rw[Xm h ho];exact e
 ·rename_i hw;rw[ap hw]at e;exact e
def N6{c d:Callee}(h:QI c d){ops:Array am}:∀{l:List am} {R:ai.Fr} {W:AW} {r:ai.Fr×AW},tI P c ops l R W=some r->tI P d ops l R W=some r:=by
 intro l;induction l with
 |nil=>intro R W r e;exact e
 |cons o l ih=>
  intro R W r e;rw[tI]at e|-;cases hs:nN P c ops o R W with
  |none=>rw[hs]at e;cases e
  |some q=>rw[hs]at e;rw[EP h hs];exact ih e
def Dc{c d:Callee}(h:QI c d){ops:Array am}{R:ai.Fr}{W:AW}{j:Nat}(e:uP P c ops R W j=true):uP P d ops R W j=true:=by
 unfold uP at e|-;cases hj:ops[j]? with
 |none=>rw[hj]at e;cases e
 |some o=>
  rw[hj]at e;simp only at e|-;split
  ·rename_i hw;rw[an hw]at e;cases ho:vA P c o R W with
   |none=>rw[ho]at e;cases e
   |some q=>rw[ho]at e;rw[Xm h ho];exact e
  ·rfl
def SM{c d:Callee}(h:QI c d){ops:Array am}:∀{l:List (Nat×List Nat)} {R:ai.Fr} {W:AW} {r:ai.Fr×AW},mO P c ops l R W=some r->mO P d ops l R W=some r:=by
 intro l;induction l with
 |nil=>intro R W r e;exact e
 |cons p l ih=>
  intro R W r e;obtain⟨i,re⟩:=p;rw[mO]at e|-;cases hi:ops[i]? with
  |none=>rw[hi]at e;cases e
  |some o=>
   rw[hi]at e;simp only at e|-;cases hs:nN P c ops o R W with
   |none=>rw[hs]at e;cases e
   |some q=>
    rw[hs]at e;rw[EP h hs];simp only at e|-;split at e
    ·rename_i hr;rw[an (db.2 λj hj=>Dc h (db.1 hr j hj))];exact ih e
    ·cases e
def oi{c d:Callee}(h:QI c d){top:Bool}{nt:Nat}:∀(k:bU) {R:ai.Fr} {W:AW} {r:LT},cz P c top nt k R W=some r->cz P d top nt k R W=some r:=by
 intro k;induction k with
 |skip=>intro R W r e;exact e
 |label l=>intro R W r e;exact e
 |exit id=>intro R W r e;exact e
 |ret=>intro R W r e;exact e
 |goto l=>intro R W r e;exact e
 |scope b _=>intro R W r e;exact e
 |refuse s=>intro R W r e;exact e
 |region id ops Ft=>
  intro R W r e;unfold cz at e|-;cases Ft with
  |false=>
   simp only at e|-;cases hs:tI P c ops ops.toList R W with
   |none=>rw[hs]at e;cases e
   |some q=>rw[hs]at e;rw[N6 h hs];exact e
  |true=>
   simp only at e|-;cases hD:ai.D id ops with
   |none=>
    rw[hD]at e;simp only at e|-;cases hs:tI P c ops ops.toList R W with
    |none=>rw[hs]at e;cases e
    |some q=>rw[hs]at e;rw[N6 h hs];exact e
   |some pl=>
    rw[hD]at e;simp only at e|-;cases hs:mO P c ops pl R W with
    |none=>rw[hs]at e;cases e
    |some q=>rw[hs]at e;rw[SM h hs];exact e
 |seq a b iha S0=>
  intro R W r e;rw[cz]at e|-;cases ha:cz P c top nt a R W with
  |none=>rw[ha]at e;cases e
  |some q=>
   rw[ha]at e;rw[iha ha];obtain⟨x,R',W'⟩:=q;cases x with
   |normal=>exact S0 e
   |exit i=>exact e
   |ret=>exact e
 |cond o a b iha S0=>
  intro R W r e;rw[cz]at e|-;cases ho:aF R o with
  |bool t=>rw[ho]at e;cases t with
   |true=>exact iha e
   |false=>exact S0 e
  |_=>rw[ho]at e;cases e
 |block id b ih=>
  intro R W r e;rw[cz]at e|-;cases hb:cz P c top nt b R W with
  |none=>rw[hb]at e;cases e
  |some q=>rw[hb]at e;rw[ih hb];exact e
 |loop b ih=>intro R W r e;rw[cz]at e|-;exact JF (λR W q hq=>ih hq) _ _ _ _ e
 |rangeFunc f ps aC4 bd _ _=>
  intro R W r e;unfold cz at e|-;cases top with
  |false=>cases e
  |true=>
   simp only at e|-;cases hf:aF R f with
   |func fn fs cs=>
    rw[hf]at e;cases fn with
    |func i=>
     simp only[AW.dX]at e|-;cases hc:c (.func (.func i) fs cs) [.func (.yield W.next) #[] #[]] (W.add (.loop .ready none R nt ps aC4 bd))with
     |none=>rw[hc]at e;cases e
     |some q=>rw[hc]at e;rw[h _ _ _ _ hc];exact e
    |_=>cases e
   |_=>rw[hf]at e;cases e
def adw{bad:List Nat}{spec c d:Callee}(h:QI c d):QI (nM P bad spec c) (nM P bad spec d):=by
 intro f a W r e;unfold nM at e|-;cases f with
 |func fn fs cs=>
  cases fn with
  |func i=>
   simp only at e|-;cases hb:PG i bad with
   |true=>rw[hb]at e;exact e
   |false=>
    rw[hb]at e;simp only at e|-;cases hf:P.funcs[i]? with
    |none=>rw[hf]at e;cases e
    |some fn=>
     rw[hf]at e;simp only at e|-;cases hc:fn.body with
     |none=>rw[hc]at e;cases e
     |some k=>
      rw[hc]at e;simp only at e|-;cases hl:Nat.ble (fs.toList.length+(a.length+cs.toList.length)) fn.ntmps with
      |false=>rw[hl]at e;cases e
      |true=>
       rw[hl]at e;simp only at e|-;cases hk:cz P c true fn.ntmps k (cG 0 (fs.toList++(a++cs.toList)) ai.blank) W with
       |none=>rw[hk]at e;cases e
       |some q=>rw[hk]at e;rw[oi h k hk];exact e
  |yield l=>
   simp only at e|-;split at e;case h_2=>cases e
   rename_i R nt ps aC4 bd hl;cases hn:Nat.beq (fs.toList.length+a.length) ps.size with
   |false=>rw[hn]at e;cases e
   |true=>
    rw[hn]at e;simp only at e|-;cases h1:cz P c false nt aC4 (nT ps.toList (fs.toList++a) R) W with
    |none=>rw[h1]at e;cases e
    |some q=>
     rw[h1]at e;rw[oi h aC4 h1];obtain⟨x,R1,W1⟩:=q;cases x with
     |normal=>
      simp only at e|-;split at e;case h_2=>cases e
      rename_i pd9 R9 W9 Wj Xo Xf hg;cases h2:cz P c false nt bd R1 (W1.put l (.loop .busy pd9 R9 W9 Wj Xo Xf))with
      |none=>rw[h2]at e;cases e
      |some q2=>rw[h2]at e;rw[oi h bd h2];exact e
     |exit i=>cases e
     |ret=>cases e
  |_=>cases e
 |_=>cases e
section
variable {c:Nat->Callee} {o:Callee}
structure ZX (c:Nat->Callee) (o:Callee):Prop where
 up:∀n,QI (c n) (c (n+1))
 of:∀f a W r,o f a W=some r->∃n,c n f a W=some r
def ZX.le(h:ZX c o){m n:Nat}(hmn:m<=n):QI (c m) (c n):=by
 induction hmn with
 |refl=>exact .refl _
 |step _ ih=>exact ih.trans (h.up _)
def R7(h:ZX c o){op:am}{R:ai.Fr}{W:AW}{r:ad×AW}(e:vA P o op R W=some r):∃n,vA P (c n) op R W=some r:=by
 rcases Sa P op R W with hd|⟨f,a,hd⟩
 ·exact⟨0,by rw[<-e];exact hd _ _⟩
 ·rw[hd]at e;obtain⟨n,hn⟩:=h.of _ _ _ _ e;exact⟨n,by rw[hd];exact hn⟩
def MO(h:ZX c o){ops:Array am}{op:am}{R:ai.Fr}{W:AW}{r:ai.Fr×AW}(e:nN P o ops op R W=some r):∃n,nN P (c n) ops op R W=some r:=by
 unfold nN at e|-;split at e
 ·rename_i hw;cases ho:vA P o op R W with
  |none=>rw[ho]at e;cases e
  |some q=>rw[ho]at e;obtain⟨n,hn⟩:=R7 h ho;exact⟨n,by rw[an hw,hn];exact e⟩
 ·rename_i hw;exact⟨0,by rw[ap hw];exact e⟩
def RJ(h:ZX c o){ops:Array am}:∀{l:List am} {R:ai.Fr} {W:AW} {r:ai.Fr×AW},tI P o ops l R W=some r->∃n,tI P (c n) ops l R W=some r:=by
 intro l;induction l with
 |nil=>intro R W r e;exact⟨0,e⟩
 |cons op l ih=>
  intro R W r e;rw[tI]at e;cases hs:nN P o ops op R W with
  |none=>rw[hs]at e;cases e
  |some q=>rw[hs]at e;obtain⟨n,hn⟩:=MO h hs;obtain⟨m,hm⟩:=ih e;refine⟨max n m,?_⟩;rw[tI,EP (h.le (xA n m)) hn];exact N6 (h.le (A5 n m)) hm
def Yi(h:ZX c o){ops:Array am}{R:ai.Fr}{W:AW}{j:Nat}(e:uP P o ops R W j=true):∃n,uP P (c n) ops R W j=true:=by
 unfold uP at e|-;cases hj:ops[j]? with
 |none=>rw[hj]at e;cases e
 |some op=>
  rw[hj]at e;simp only at e|-;split at e
  ·rename_i hw;cases ho:vA P o op R W with
   |none=>rw[ho]at e;cases e
   |some q=>rw[ho]at e;obtain⟨n,hn⟩:=R7 h ho;exact⟨n,by rw[an hw,hn];exact e⟩
  ·rename_i hw;exact⟨0,by rw[ap hw]⟩
def LV(h:ZX c o){ops:Array am}{R:ai.Fr}{W:AW}:∀{l:List Nat},l.all (uP P o ops R W)=true->∃n,l.all (uP P (c n) ops R W)=true:=by
 intro l;induction l with
 |nil=>intro _;exact⟨0,rfl⟩
 |cons j l ih=>intro e;simp only[dC,bA]at e;obtain⟨n,hn⟩:=Yi h e.1;obtain⟨m,hm⟩:=ih e.2;refine⟨max n m,?_⟩;simp only[dC,bA];exact⟨Dc (h.le (xA n m)) hn,db.2 λj hj=>Dc (h.le (A5 n m)) (db.1 hm j hj)⟩
def Xx(h:ZX c o){ops:Array am}:∀{l:List (Nat×List Nat)} {R:ai.Fr} {W:AW} {r:ai.Fr×AW},mO P o ops l R W=some r->∃n,mO P (c n) ops l R W=some r:=by
 intro l;induction l with
 |nil=>intro R W r e;exact⟨0,e⟩
 |cons p l ih=>
  intro R W r e;obtain⟨i,re⟩:=p;rw[mO]at e;cases hi:ops[i]? with
  |none=>rw[hi]at e;cases e
  |some op=>
   rw[hi]at e;simp only at e;cases hs:nN P o ops op R W with
   |none=>rw[hs]at e;cases e
   |some q=>
    rw[hs]at e;simp only at e;split at e
    ·rename_i hr;obtain⟨n,hn⟩:=MO h hs;obtain⟨m,hm⟩:=LV h hr;obtain⟨k,hk⟩:=ih e;refine⟨max n (max m k),?_⟩;rw[mO,hi];simp only;rw[EP (h.le (xA n _)) hn];simp only;rw[an (db.2 λj hj=>Dc (h.le (by omega)) (db.1 hm j hj))];exact SM (h.le (by omega)) hk
    ·cases e
def Yf(h:ZX c o){top:Bool}{nt:Nat}{k:bU}(ih:∀{R:ai.Fr} {W:AW} {r:LT},cz P o top nt k R W=some r->∃n,cz P (c n) top nt k R W=some r):
 ∀(m:Nat) {R:ai.Fr} {W:AW} {r:LT},mL (cz P o top nt k) m R W=some r->∃n,mL (cz P (c n) top nt k) m R W=some r:=by
 intro m;induction m with
 |zero=>intro R W r e;cases e
 |succ m ihm=>
  intro R W r e;unfold mL at e;cases hb:cz P o top nt k R W with
  |none=>rw[hb]at e;cases e
  |some q=>
   rw[hb]at e;obtain⟨n,hn⟩:=ih hb;obtain⟨x,R',W'⟩:=q;cases x with
   |normal=>obtain⟨j,hj⟩:=ihm e;refine⟨max n j,?_⟩;unfold mL;rw[oi (h.le (xA n j)) k hn];exact JF (λR W q hq=>oi (h.le (A5 n j)) k hq) _ _ _ _ hj
   |exit i=>exact⟨n,by unfold mL;rw[hn];exact e⟩
   |ret=>exact⟨n,by unfold mL;rw[hn];exact e⟩
def Gb(h:ZX c o){top:Bool}{nt:Nat}:∀(k:bU) {R:ai.Fr} {W:AW} {r:LT},cz P o top nt k R W=some r->∃n,cz P (c n) top nt k R W=some r:=by
 intro k;induction k with
 |skip=>intro R W r e;exact⟨0,e⟩
 |label l=>intro R W r e;exact⟨0,e⟩
 |exit id=>intro R W r e;exact⟨0,e⟩
 |ret=>intro R W r e;exact⟨0,e⟩
 |goto l=>intro R W r e;exact⟨0,e⟩
 |scope b _=>intro R W r e;exact⟨0,e⟩
 |refuse s=>intro R W r e;exact⟨0,e⟩
 |region id ops Ft=>
  intro R W r e;unfold cz at e|-;cases Ft with
  |false=>
   simp only at e|-;cases hs:tI P o ops ops.toList R W with
   |none=>rw[hs]at e;cases e
   |some q=>rw[hs]at e;obtain⟨n,hn⟩:=RJ h hs;exact⟨n,by rw[hn];exact e⟩
  |true=>
   simp only at e|-;cases hD:ai.D id ops with
   |none=>
    rw[hD]at e;simp only at e|-;cases hs:tI P o ops ops.toList R W with
    |none=>rw[hs]at e;cases e
    |some q=>rw[hs]at e;obtain⟨n,hn⟩:=RJ h hs;exact⟨n,by rw[hn];exact e⟩
   |some pl=>
    rw[hD]at e;simp only at e|-;cases hs:mO P o ops pl R W with
    |none=>rw[hs]at e;cases e
    |some q=>rw[hs]at e;obtain⟨n,hn⟩:=Xx h hs;exact⟨n,by rw[hn];exact e⟩
 |seq a b iha S0=>
  intro R W r e;rw[cz]at e;cases ha:cz P o top nt a R W with
  |none=>rw[ha]at e;cases e
  |some q=>
   rw[ha]at e;obtain⟨n,hn⟩:=iha ha;obtain⟨x,R',W'⟩:=q;cases x with
   |normal=>obtain⟨m,hm⟩:=S0 e;refine⟨max n m,?_⟩;rw[cz,oi (h.le (xA n m)) a hn];exact oi (h.le (A5 n m)) b hm
   |exit i=>exact⟨n,by rw[cz,hn];exact e⟩
   |ret=>exact⟨n,by rw[cz,hn];exact e⟩
 |cond q a b iha S0=>
  intro R W r e;rw[cz]at e;cases ho:aF R q with
  |bool t=>rw[ho]at e;cases t with
   |true=>obtain⟨n,hn⟩:=iha e;exact⟨n,by rw[cz,ho];exact hn⟩
   |false=>obtain⟨n,hn⟩:=S0 e;exact⟨n,by rw[cz,ho];exact hn⟩
  |_=>rw[ho]at e;cases e
 |block id b ih=>
  intro R W r e;rw[cz]at e;cases hb:cz P o top nt b R W with
  |none=>rw[hb]at e;cases e
  |some q=>rw[hb]at e;obtain⟨n,hn⟩:=ih hb;exact⟨n,by rw[cz,hn];exact e⟩
 |loop b ih=>intro R W r e;rw[cz]at e;obtain⟨n,hn⟩:=Yf h (λe=>ih e) _ e;exact⟨n,by rw[cz];exact hn⟩
 |rangeFunc f ps aC4 bd _ _=>
  intro R W r e;unfold cz at e|-;cases top with
  |false=>cases e
  |true=>
   simp only at e|-;cases hf:aF R f with
   |func fn fs cs=>
    rw[hf]at e;cases fn with
    |func i=>
     simp only[AW.dX]at e|-;cases hc:o (.func (.func i) fs cs) [.func (.yield W.next) #[] #[]] (W.add (.loop .ready none R nt ps aC4 bd))with
     |none=>rw[hc]at e;cases e
     |some q=>rw[hc]at e;obtain⟨n,hn⟩:=h.of _ _ _ _ hc;exact⟨n,by rw[hn];exact e⟩
    |_=>cases e
   |_=>rw[hf]at e;cases e
def Yr(h:ZX c o){bad:List Nat}{spec:Callee}{f:ad}{a:List ad}{W:AW}{r:ad×AW}(e:nM P bad spec o f a W=some r):∃n,nM P bad spec (c n) f a W=some r:=by
 unfold nM at e|-;cases f with
 |func fn fs cs=>
  cases fn with
  |func i=>
   simp only at e|-;cases hb:PG i bad with
   |true=>rw[hb]at e;exact⟨0,e⟩
   |false=>
    rw[hb]at e;simp only at e|-;cases hf:P.funcs[i]? with
    |none=>rw[hf]at e;cases e
    |some fn=>
     rw[hf]at e;simp only at e|-;cases hc:fn.body with
     |none=>rw[hc]at e;cases e
     |some k=>
      rw[hc]at e;simp only at e|-;cases hl:Nat.ble (fs.toList.length+(a.length+cs.toList.length)) fn.ntmps with
      |false=>rw[hl]at e;cases e
      |true=>
       rw[hl]at e;simp only at e|-;cases hk:cz P o true fn.ntmps k (cG 0 (fs.toList++(a++cs.toList)) ai.blank) W with
       |none=>rw[hk]at e;cases e
       |some q=>rw[hk]at e;obtain⟨n,hn⟩:=Gb h k hk;exact⟨n,by rw[hn];exact e⟩
  |yield l=>
   simp only at e|-;split at e;case h_2=>cases e
   rename_i R nt ps aC4 bd hl;cases hn:Nat.beq (fs.toList.length+a.length) ps.size with
   |false=>rw[hn]at e;cases e
   |true=>
    rw[hn]at e;simp only at e|-;cases h1:cz P o false nt aC4 (nT ps.toList (fs.toList++a) R) W with
    |none=>rw[h1]at e;cases e
    |some q=>
     rw[h1]at e;obtain⟨n,hn1⟩:=Gb h aC4 h1;obtain⟨x,R1,W1⟩:=q;cases x with
     |normal=>
      simp only at e;split at e;case h_2=>cases e
      rename_i pd9 R9 W9 Wj Xo Xf hg;cases h2:cz P o false nt bd R1 (W1.put l (.loop .busy pd9 R9 W9 Wj Xo Xf))with
      |none=>rw[h2]at e;cases e
      |some q2=>rw[h2]at e;obtain⟨m,hm⟩:=Gb h bd h2;refine⟨max n m,?_⟩;rw[oi (h.le (xA n m)) aC4 hn1];simp only;rw[hg];simp only;rw[oi (h.le (A5 n m)) bd hm];exact e
     |exit i=>cases e
     |ret=>cases e
  |_=>cases e
 |_=>cases e
end
end
end
section
variable [ai]
def FnR.back{σ σ':dz}(hs:Sub σ σ'){f u u':Fn}(h:FnR σ f u)(k:FnR σ' f u'):FnR σ f u':=by
 cases h with
 |func f=>cases k;exact .func f
 |yield l g hg=>
  cases k with
  |yield _ g' F1=>have:=(hs _ _ hg).symm.trans F1;injection this with this;subst this;exact .yield l g hg
def VR.back{σ σ':dz}(hs:Sub σ σ'){v u:ad}(h:VR σ v u):∀{u':ad},VR σ' v u'->VR σ v u':=by
 induction h with
 |bool b=>intro u' k;cases k;exact .bool b
 |int k n=>intro u' k;cases k;exact .int _ _
 |float k n=>intro u' k;cases k;exact .float _ _
 |string s=>intro u' k;cases k;exact .string s
 |PP=>intro u' k;cases k;exact .PP
 |ptr a g hg wS=>
  intro u' k;cases k with
  |ptr _ g' F1 CP=>have:=(hs _ _ hg).symm.trans F1;injection this with this;subst this;exact .ptr a g hg wS
 |I4 l c=>intro u' k;cases k;exact .I4 _ _
 |slice a l c c' g hg wS hc=>
  intro u' k;cases k with
  |slice _ _ _ c2 g' F1 CP yT=>have:=(hs _ _ hg).symm.trans F1;injection this with this;subst this;exact .slice a l c c2 g hg wS yT
  |dO _ a' _ g' F1 yT=>have:=(hs _ _ hg).symm.trans F1;injection this with this;subst this;exact .dO a a' c g hg yT
 |dO a a' c g hg hc=>
  intro u' k;cases k with
  |slice _ _ _ c2 g' F1 CP yT=>have:=(hs _ _ hg).symm.trans F1;injection this with this;subst this;exact .slice a 0 c c2 g hg CP yT
  |dO _ a2 _ g' F1 yT=>exact .dO a a2 c g hg yT
 |Uh=>intro u' k;cases k;exact .Uh
 |map r g hg=>
  intro u' k;cases k with
  |map _ g' F1=>have:=(hs _ _ hg).symm.trans F1;injection this with this;subst this;exact .map r g hg
 |nilFunc=>intro u' k;cases k;exact .nilFunc
 |func fn Lo fs yg cs cV hf h1 _ h3 _ ih1 ih2=>
  intro u' k;cases k with
  |func _ fn2 _ fs2 _ Ls kf k1 k2 k3 k4=>
   refine .func _ _ _ _ _ _ (hf.back hs kf) k1 (λi v v' a b=>?_) k3 (λi v v' a b=>?_)
   ·have hi:i<yg.size:=by rw[<-h1];exact(eV.1 a).1
    exact ih1 i v _ a (jK hi) (k2 i v v' a b)
   ·have hi:i<cV.size:=by rw[<-h3];exact(eV.1 a).1
    exact ih2 i v _ a (jK hi) (k4 i v v' a b)
 |nilIface=>intro u' k;cases k;exact .nilIface
 |iface t v v' _ ih=>
  intro u' k;cases k with
  |iface _ _ v2 k=>exact .iface t v v2 (ih k)
 |agg cs cV h1 _ ih=>
  intro u' k;cases k with
  |agg _ Ls k1 k2=>
   refine .agg _ _ k1 λi v v' a b=>?_
   have hi:i<cV.size:=by rw[<-h1];exact(eV.1 a).1
   exact ih i v _ a (jK hi) (k2 i v v' a b)
 |tuple cs cV h1 _ ih=>
  intro u' k;cases k with
  |tuple _ Ls k1 k2=>
   refine .tuple _ _ k1 λi v v' a b=>?_
   have hi:i<cV.size:=by rw[<-h1];exact(eV.1 a).1
   exact ih i v _ a (jK hi) (k2 i v v' a b)
def pA.back{σ σ':dz}(hs:Sub σ σ'){h h':Array Obj}{g:zY}{o:dI}(a:pA σ h g o)(b:pA σ' h' g o):pA σ h' g o:=by
 cases o with
 |cells cs=>obtain⟨c1,t1,_,_,_,_,_,e4⟩:=a;obtain⟨c2,t2,fr2,f1,f0,f2,f3,f4⟩:=b;refine⟨c2,t2,fr2,f1,f0,f2,f3,λi v hv=>?_⟩;obtain⟨v1,_,x⟩:=e4 i v hv;obtain⟨v2,y1,y2⟩:=f4 i v hv;exact⟨v2,y1,x.back hs y2⟩
 |ro cs=>obtain⟨c1,t1,fr1,_,_,e4⟩:=a;obtain⟨c2,t2,fr2,f1,f2,f4⟩:=b;refine⟨c2,t2,fr2,f1,f2,λi v hv=>?_⟩;obtain⟨v1,_,x⟩:=e4 i v hv;obtain⟨v2,y1,y2⟩:=f4 i v hv;exact⟨v2,y1,x.back hs y2⟩
 |map es nW=>
  obtain⟨e1,e2,es1,_,⟨e3,e4⟩⟩:=a;obtain⟨f1,f2,es2,f3,⟨f4,f5⟩⟩:=b;refine⟨f1,f2,es2,f3,f4,λi e e' x y=>?_⟩;have hi:i<es1.toList.length:=by rw[<-e3];exact(dh.1 x).1
  obtain⟨p1,p2,_⟩:=e4 i e _ x (bN hi);obtain⟨q1,q2,q3⟩:=f5 i e e' x y;exact⟨p1.back hs q1,p2.back hs q2,q3⟩
 |loop st qU R nt ps aC4 bd=>obtain⟨_,_,r1,_,_,_,⟨_,e4⟩,_,_,_,e8,e9,e10⟩:=a;obtain⟨f1,f2,r2,f3,f4,f5,⟨f6,f7⟩,f8,f9,f10,_,_,_⟩:=b;exact⟨f1,f2,r2,f3,f4,f5,⟨f6,λt ht=>(e4 t ht).back hs (f7 t ht)⟩,f8,f9,f10,e8,e9,e10⟩
 |rh s pos=>exact b
 |tc t cs=>obtain⟨_,_,_,c1,_,_,_,e4⟩:=a;obtain⟨b1,b2,b3,c2,f1,f2,f3,f4⟩:=b;refine⟨b1,b2,b3,c2,f1,f2,f3,λi v hv=>?_⟩;obtain⟨v1,_,x⟩:=e4 i v hv;obtain⟨v2,y1,y2⟩:=f4 i v hv;exact⟨v2,y1,x.back hs y2⟩
structure Le (W W':AW):Prop where
 next:W.next<=W'.next
 get:∀b,b<W.next->W'.get b=W.get b
def Le.refl(W:AW):Le W W:=⟨aQ _,λ_ _=>rfl⟩
def Le.trans{A B C:AW}(h:Le A B)(k:Le B C):Le A C:=⟨eS h.next k.next,λb hb=>(k.get b (ff hb h.next)).trans (h.get b hb)⟩
def Le.add{W W':AW}(h:Le W W')(o:dI):Le W (W'.add o):=
 ⟨eS h.next (by rw[AW.av];omega),λb hb=>by rw[AW.aE _ _ (by have:=h.next;omega)];exact h.get b hb⟩
def Le.put{W W':AW}(h:Le W W'){b:Nat}(hb:W.next<=b)(o:dI):Le W (W'.put b o):=
 ⟨h.next,λc hc=>by rw[AW.ay _ _ (by omega)];exact h.get c hc⟩
def Le.kill{W W':AW}(h:Le W W'){b:Nat}(hb:W.next<=b):Le W (W'.kill b):=
 ⟨h.next,λc hc=>by rw[AW.de _ (by omega)];exact h.get c hc⟩
def afB{σ σ':dz}{W W':AW}{w w':ar}(hW:bI σ W w.heap)(aM:Le W W')(h1:bI σ' W' w'.heap)(he:fT σ W w σ' W' w'):bI σ W w'.heap/\fT σ W w σ W w':=by
 have lA:∀b o,W.get b=some o->b<W.next:=λb o hb=>by
  rcases qG b W.next with h|h
  ·exact h
  ·rw[hW.free b h]at hb;cases hb
 refine⟨⟨hW.free,λb g hg=>⟨(hW.qL b g hg).1,ff (hW.qL b g hg).2 he.size⟩,λb o g hb hg=>?_,λb1 b2 o1 o2 g1 g2 fp a1 a2 k1 k2 hr=>?_⟩,
  ⟨.refl _,λ_ _ h=>h,he.size,he.os,he.tape,he.output,he.keep,λ_ _ h k=>⟨h,k⟩,λb g hg _=>.inl hg⟩⟩
 ·exact(hW.obj b o g hb hg).back he.sub (h1.obj b o g (by rw[aM.get b (lA b o hb)];exact hb) (he.sub _ _ hg))
 ·exact hW.vF b1 b2 o1 o2 g1 g2 fp a1 a2 k1 k2 hr
def Za:ad->Bool
 |.tuple vs=>vs.isEmpty
 |_=>false
def gc(W:AW)(r:ad×AW):ad×AW:=
 open Classical in if(bL r.1&& !Za r.1)=true/\Le W r.2 then(r.1,W)else r
def Ej{W W':AW}{v:ad}(hv:(bL v&& !Za v)=true)(h:Le W W'):gc W (v,W')=(v,W):=by unfold gc;rw[an ⟨hv,h⟩]
def kB{W W':AW}{v:ad}(hv:(bL v&& !Za v)=false):gc W (v,W')=(v,W'):=by unfold gc;rw[ap (by simp only[hv];simp)]
def gcF(f:ad)(W:AW)(r:ad×AW):ad×AW:=match f with
 |.func (.func _) _ _=>gc W r
 |_=>r
def aqF{P:ag}{ng:List Nat}{c:Callee}(hc:cl P ng c):cl P ng λf a W=>(c f a W).map (gcF f W):=by
 intro f args W v W' h σ w f' cZ hW hG hf da;simp only at h;cases hr:c f args W with
 |none=>rw[hr]at h;cases h
 |some q=>
  rw[hr]at h;obtain⟨v1,W1⟩:=q;have hk:=hc f args W v1 W1 hr σ w f' cZ hW hG hf da;simp only[dA,jd]at h;unfold gcF at h;split at h;case h_2=>injection h with e1 e2;subst e1;subst e2;exact hk
  unfold gc at h;split at h
  ·rename_i hp;injection h with e1 e2;subst e1;subst e2;have qk:bL v1=true:=(bA _ _▸hp.1).1;have key:∀(R R':ad->ar->Prop),(∀v' w',R v' w'->R' v' w')->BT P f' cZ w R->BT P f' cZ w R':=by
    intro R R' hRR hC;unfold BT at hC|-;split at hC
    ·exact⟨hC.1,oV hC.2 λe w' ⟨u,hu,hr⟩=>⟨u,hu,hRR _ _ hr⟩⟩
    ·obtain⟨f,tmps,aC4,bd,k1,k2⟩:=hC;exact⟨f,tmps,aC4,bd,k1,RoundIn.mono k2 λe w' ⟨u,hu,hr⟩=>⟨u,hu,hRR _ _ hr⟩⟩
    ·exact hC.elim
   refine key _ _ (λv' w' ⟨σ',k1,k2,k3⟩=>?_) hk;obtain⟨d1,d2⟩:=afB hW hp.2 k2 k3;have:v'=v1:=gP qk k1;subst this;exact⟨σ,jM qk,d1,d2⟩
  ·injection h with e1 e2;subst e1;subst e2;exact hk
section
variable (P:ag) (bad:List Nat) (spec:Callee)
def gC:Nat->Callee
 |0=>λ_ _ _=>none
 |n+1=>λf a W=>(nM P bad spec (gC n) f a W).map (gcF f W)
def aqn:∀n,QI (gC P bad spec n) (gC P bad spec (n+1)):=by
 intro n;induction n with
 |zero=>intro f a W r h;cases h
 |succ n ih=>
  intro f a W r h;have h':(nM P bad spec (gC P bad spec n) f a W).map (gcF f W)=some r:=h;show(nM P bad spec (gC P bad spec (n+1)) f a W).map (gcF f W)=some r;cases hb:nM P bad spec (gC P bad spec n) f a W with
  |none=>rw[hb]at h';cases h'
  |some q=>rw[hb]at h';rw[adw ih _ _ _ _ hb];exact h'
def om:Callee:=λf a W=>open Classical in if h:∃r n,gC P bad spec n f a W=some r then some (Classical.choose h)else none
def Oc:ZX (gC P bad spec) (om P bad spec):=by
 refine⟨aqn P bad spec,λf a W r h=>?_⟩;unfold om at h;split at h
 ·rename_i hx;injection h with h;subst h;exact xn hx
 ·cases h
def an3{n:Nat}{f:ad}{a:List ad}{W:AW}{r:ad×AW}(h:gC P bad spec n f a W=some r):om P bad spec f a W=some r:=by have hx:∃r n,gC P bad spec n f a W=some r:=⟨r,n,h⟩;unfold om;rw[oF hx];obtain⟨m,hm⟩:=xn hx;have h1:=(Oc P bad spec).le (xA n m) _ _ _ _ h;have h2:=(Oc P bad spec).le (A5 n m) _ _ _ _ hm;rw[h1]at h2;exact h2.symm
def Od{f:ad}{a:List ad}{W:AW}{r:ad×AW}(h:nM P bad spec (om P bad spec) f a W=some r):om P bad spec f a W=some (gcF f W r):=by obtain⟨n,hn⟩:=Yr (Oc P bad spec) h;refine an3 P bad spec (n:=n+1) ?_;show(nM P bad spec (gC P bad spec n) f a W).map (gcF f W)=_;rw[hn];rfl
variable {P bad spec}
def aic(hm:P.follows .mixedOrders=true)(hP:nk ai.ng bad 0 P.funcs.toList=true)(hs:cl P ai.ng spec):∀n,cl P ai.ng (gC P bad spec n)
 |0=>λf args W v W' h=>by cases h
 |n+1=>aqF (Ht hm rfl hP hs (aic hm hP hs n))
def aqO(hm:P.follows .mixedOrders=true)(hP:nk ai.ng bad 0 P.funcs.toList=true)(hs:cl P ai.ng spec):cl P ai.ng (om P bad spec):=by intro f args W v W' h;obtain⟨n,hn⟩:=(Oc P bad spec).of _ _ _ _ h;exact aic hm hP hs n f args W v W' hn
def amX{i:Nat}{fn:iC}{c:bU}(hb:PG i bad=false)(hf:P.funcs[i]? =some fn)(hc:fn.body=some c){fs cs:Array ad}{args:List ad}
 (hn:Nat.ble (fs.toList.length+(args.length+cs.toList.length)) fn.ntmps=true){W:AW}{r:ad×AW}(h:abX P (om P bad spec) fn.ntmps c fn.results (fs.toList++(args++cs.toList)) W=some r):
 om P bad spec (.func (.func i) fs cs) args W=some (gc W r):=Od P bad spec (ZA hb hf hc hn h)
def ac7{l nt:Nat}{R:ai.Fr}{ps:Array Tmp}{aC4 bd:bU}{W:AW}(hl:W.get l=some (.loop .ready none R nt ps aC4 bd)){fs cs:Array ad}{args:List ad}(hn:fs.toList.length+args.length=ps.size)
 {r:ad×AW}(h:Pg P (om P bad spec) l nt aC4 bd (nT ps.toList (fs.toList++args) R) W=some r):om P bad spec (.func (.yield l) fs cs) args W=some r:=Od P bad spec (Qq hl hn h)
def NV{i:Nat}(hb:PG i bad=true){fs cs:Array ad}{args:List ad}{W:AW}{r:ad×AW}(h:spec (.func (.func i) fs cs) args W=some r):
 om P bad spec (.func (.func i) fs cs) args W=some (gc W r):=by
 refine Od P bad spec ?_;unfold nM;simp only[hb];exact h
end
end
section
variable [ai]
def Dk{α ρ:Type}(a:α)(g:α->Option ρ):fb (some a) g=g a:=by rw[Kt];rfl
section
variable {P:ag} {W:AW}
def ama(v:ad):dS v W=some (v,W):=aS rfl rfl
def iB(cs:Array ad):pP (.agg cs) W=some (.pointer (some ⟨W.next,0,none⟩),W.add (.cells cs.toList)):=aS rfl rfl
def Rc(k:be)(n:Int):pP (.int k n) W=some (.pointer (some ⟨W.next,0,none⟩),W.add (.cells [.int k n])):=aS rfl rfl
def X6(b:Bool):pP (.bool b) W=some (.pointer (some ⟨W.next,0,none⟩),W.add (.cells [.bool b])):=aS rfl rfl
def RT(s:ByteArray):pP (.string s) W=some (.pointer (some ⟨W.next,0,none⟩),W.add (.cells [.string s])):=aS rfl rfl
def Tr(a:Option bg)(l c:Nat):pP (.slice a l c) W=some (.pointer (some ⟨W.next,0,none⟩),W.add (.cells [.slice a l c])):=aS rfl rfl
def YL(f:Fn)(a b:Array ad):pP (.func f a b) W=some (.pointer (some ⟨W.next,0,none⟩),W.add (.cells [.func f a b])):=aS rfl rfl
def Ti(f:jU)(a b:Array ad):uj (.func f) a b W=some (.func (.func f) a b,W):=aS rfl rfl
def Oh(a b:ad):tG (.tuple #[a,b]) 0 W=some (a,W):=aS rfl rfl
def Pu(a b:ad):tG (.tuple #[a,b]) 1 W=some (b,W):=aS rfl rfl
def NF(a b c:ad):tG (.tuple #[a,b,c]) 0 W=some (a,W):=aS rfl rfl
def O7(a b c:ad):tG (.tuple #[a,b,c]) 1 W=some (b,W):=aS rfl rfl
def Pe(a b c:ad):tG (.tuple #[a,b,c]) 2 W=some (c,W):=aS rfl rfl
def acb(b:Bool):tn (.bool b) true=b:=by cases b<;>exact aS rfl rfl
def Ze(b:Bool):tn (.bool b) false= !b:=by cases b<;>exact aS rfl rfl
def adJ{ρ:Type}(a b:ρ):qJ true a b=a:=aS rfl rfl
def Zi{ρ:Type}(a b:ρ):qJ false a b=b:=aS rfl rfl
def aaf{ρ:Type}(c:Bool)(a b:Option ρ):PE (.bool c) a b=qJ c a b:=aS rfl rfl
def To(c:Bool)(a b:ad):kH (.bool c) a b W=some (qJ c a b,W):=by cases c<;>exact aS rfl rfl
def NG{ρ:Type}(a b:Option ρ):yn X.normal a b=a:=aS rfl rfl
def Tz{ρ:Type}(i:Nat)(a b:Option ρ):yn (X.exit i) a b=b:=aS rfl rfl
def YB{ρ:Type}(a b:Option ρ):yn X.ret a b=b:=aS rfl rfl
def Td{ρ:Type}(i:Nat)(a b:Option ρ):BY i (X.exit i) a b=a:=by show Bool.rec b a (Nat.beq i i)=a;rw[uC]
def Xt{ρ:Type}(i:Nat)(a b:Option ρ):BY i X.ret a b=b:=aS rfl rfl
def Oo{ρ:Type}(i:Nat)(a b:Option ρ):BY i X.normal a b=b:=aS rfl rfl
def XI{ρ:Type}(a:Option ρ):I9 X.ret a=a:=aS rfl rfl
def ahJ(b:Bool):oUn P .not (.bool b) W=some (.bool (!b),W):=aS rfl rfl
def aaM(f:jU):vX f=.func (.func f) #[] #[]:=aS rfl rfl
def mH{op:BinOp}{t:af}{c d:Bool}{k:be}{a b:Int}{v:ad}(h:Gn op k a b=some v):bO P op t c d (.int k a) (.int k b) W=some (v,W):=by unfold bO rP;simp only[an,h]
def wm{n:Int}(h1: -9223372036854775808<=n)(h2:n<9223372036854775808):IntKind.i64.wrap n=n:=by unfold IntKind.wrap;simp only[IntKind.bits,IntKind.signed,il];split<;>rename_i h<;>simp at h<;>omega
def kU{t:af}{c d:Bool}{a b:Int}(h1: -9223372036854775808<=a+b)(h2:a+b<9223372036854775808):bO P .add t c d (.ae a) (.ae b) W=some (.ae (a+b),W):=
 mH (by simp only[Gn,sF,Ag,wm h1 h2])
def tJ{t:af}{c d:Bool}{a b:Int}(h1: -9223372036854775808<=a-b)(h2:a-b<9223372036854775808):bO P .sub t c d (.ae a) (.ae b) W=some (.ae (a-b),W):=
 mH (by simp only[Gn,sF,Ag,wm h1 h2])
def abW{t:af}{c d:Bool}{a b:Int}(h1: -9223372036854775808<=a*b)(h2:a*b<9223372036854775808):bO P .mul t c d (.ae a) (.ae b) W=some (.ae (a*b),W):=
 mH (by simp only[Gn,sF,Ag,wm h1 h2])
def adA{t:af}{c d:Bool}{k:be}{a b:Int}:bO P .lss t c d (.int k a) (.int k b) W=some (.bool (decide (a<b)),W):=mH rfl
def aao{t:af}{c d:Bool}{k:be}{a b:Int}:bO P .leq t c d (.int k a) (.int k b) W=some (.bool (decide (a<=b)),W):=mH rfl
def ac4{t:af}{c d:Bool}{k:be}{a b:Int}:bO P .gtr t c d (.int k a) (.int k b) W=some (.bool (decide (b<a)),W):=mH rfl
def abC{t:af}{c d:Bool}{k:be}{a b:Int}:bO P .geq t c d (.int k a) (.int k b) W=some (.bool (decide (b<=a)),W):=mH rfl
def acj{t:af}{c d:Bool}{k:be}{a b:Int}:bO P .eql t c d (.int k a) (.int k b) W=some (.bool (decide (a=b)),W):=mH rfl
def aeD{t:af}{c d:Bool}{k:be}{a b:Int}:bO P .neq t c d (.int k a) (.int k b) W=some (.bool (!decide (a=b)),W):=mH rfl
def QT{s:Sem ad}{v:ad}(h:cH P s=some v):EM (cH P (do pure (.value (<-s))))=some v:=by
 induction s with
 |pure a=>simp only[cH]at h;injection h with h;subst h;rfl
 |program k ih=>exact ih P h
 |_=>simp[cH]at h
def sC{op:BinOp}{t:af}{c d:Bool}{x y v:ad}(h0:rP P W op t x y=none)(hx:bL x=true)(hy:bL y=true)(hv:bL v=true)
 (hp:cH P (do eqGuard op t (opd c) (opd d) x y;binOp op t x y:Sem ad)=some v):bO P op t c d x y W=some (v,W):=by
 unfold bO;rw[h0];simp only[nX,hx,hy,fN,bi,QT hp,hv,dA]
def Se{t:af}{c d:Bool}{k:be}{a b:Int}(hb:b≠0):bO P .rem t c d (.int k a) (.int k b) W=some (.int k (a.tmod b),W):=by refine sC (by simp[rP,Gn]) rfl rfl rfl ?_;simp[eqGuard,binOp,Op.intDiv,hb];rfl
def XE{op:BinOp}(ho:op=.and\/op=.or\/op=.xor\/op=.andNot){t:af}{c d:Bool}{k:be}{a b n:Int}(h:cH P (Op.intBits op k a b)=some (.int k n)):bO P op t c d (.int k a) (.int k b) W=some (.int k n,W):=by refine sC (by rcases ho with rfl|rfl|rfl|rfl<;>simp[rP,Gn]) rfl rfl rfl ?_;rcases ho with rfl|rfl|rfl|rfl<;>simpa[eqGuard,binOp]using h
def aaj{t:af}{c d:Bool}{k:be}{a b:Int}:bO P .and t c d (.int k a) (.int k b) W=some (.int k (k.wrap (BitVec.ofInt k.bits a&&&BitVec.ofInt k.bits b).toNat),W):=XE (.inl rfl) rfl
def fh{α β:Type}(s:Sem α)(f:α->Sem β):cH P (s>>=f)=(cH P s).bind λa=>cH P (f a):=by
 induction s with
 |pure a=>rfl
 |program k ih=>exact ih P
 |_=>rfl
def gl{α:Type}(a:α):cH P (pure a:Sem α)=some a:=aS rfl rfl
def HY:cH P (program:Sem ag)=some P:=aS rfl rfl
def fB{t:af}{d:TypeDesc}(h:P.underlying t=some d):cH P (underlying t)=some d:=by unfold underlying;simp only[fh,HY,bJ,h,gl]
def Gf{t:af}{c d:Bool}{a b:ByteArray}:bO P .eql t c d (.string a) (.string b) W=some (.bool (a.toList==b.toList),W):=by
 refine sC ?_ rfl rfl rfl ?_
 ·simp only[rP];have h1:pB P W t (.string a) (.string b)=none:=by unfold pB;split<;>first|rfl|simp_all
  rw[h1];rfl
 ·rfl
def F9{t:af}{c d:Bool}{a b:ByteArray}:bO P .neq t c d (.string a) (.string b) W=some (.bool (!(a.toList==b.toList)),W):=by
 refine sC ?_ rfl rfl rfl ?_
 ·simp only[rP];have h1:pB P W t (.string a) (.string b)=none:=by unfold pB;split<;>first|rfl|simp_all
  rw[h1];rfl
 ·rfl
def dg{ts:Array af}{ty:af}{cf:Array Bool}{e:af}(h:(ts[0]?).bind P.underlying=some (.slice e))(a:Option bg)(n c:Nat):aV P .len ts ty cf [.slice a n c] W=some (.ae n,W):=by unfold aV;simp only[h];rfl
def Ui(v:ad):iX P [(v,none)] W=some (v,W):=aS rfl rfl
def TU(v u:ad):iX P [(v,none),(u,none)] W=some (.tuple #[v,u],W):=aS rfl rfl
def Uv(v u x:ad):iX P [(v,none),(u,none),(x,none)] W=some (.tuple #[v,u,x],W):=aS rfl rfl
def abI:iX P [] W=some (.tuple #[],W):=aS rfl rfl
def aO{b o:Nat}{cs:List ad}{v:ad}(h:aH W b=some cs)(hv:cs[o]? =some v):bz (.pointer (some ⟨b,o,none⟩)) W=some (v,W):=by unfold bz;simp only[h,OE,hv,dA]
def bB{n b o:Nat}{cs:List ad}(h:aH W b=some cs)(hv:((cs.drop o).take n).length=n):dJ n (.pointer (some ⟨b,o,none⟩)) W=some (.agg ((cs.drop o).take n).toArray,W):=by unfold dJ;simp only[kh,h,hv,bi,dA]
def ao{b:Nat}{cs:List ad}(h:W.get b=some (.cells cs)):aH W b=some cs:=by unfold aH;rw[h]
def Jl{b:Nat}{cs:List ad}(h:W.get b=some (.ro cs)):aH W b=some cs:=by unfold aH;rw[h]
def bF{cs:List ad}:aH (W.add (.cells cs)) W.next=some cs:=ao (W.aI _)
def Ha{b:Nat}(o:dI)(h:b<W.next):aH (W.add o) b=aH W b:=by unfold aH;rw[W.aE o (by omega)]
def uY{b:Nat}(cs:List ad):aH (W.put b (.cells cs)) b=some cs:=ao (W.aW _ _)
def Ak{b c:Nat}(o:dI)(h:b≠c):aH (W.put b o) c=aH W c:=by unfold aH;rw[W.ay o h]
def Le.aH{W W':AW}(h:Le W W'){b:Nat}(hb:b<W.next):aH W' b=aH W b:=by unfold Eng.aH;rw[h.get b hb]
def CA{n b o:Nat}{cs:List ad}{v:ad}(h:W.get b=some (.cells cs))(hn:v.cells.size=n)(hl:o+v.cells.toList.length<=cs.length)(h1:v.cells.toList.all one=true):
 eZ n (.pointer (some ⟨b,o,none⟩)) v W=some (aj,W.put b (.cells (iG cs o v.cells.toList))):=by
 unfold eZ;simp only[hn,bi,Jw,h,an (show o+v.cells.toList.length<=cs.length/\v.cells.toList.all one=true from⟨hl,h1⟩),dA]
def alK{b o off:Nat}:jp off (.pointer (some ⟨b,o,none⟩)) W=some (.pointer (some ⟨b,o+off,none⟩),W):=by unfold jp;simp only[dH]
def oq{z b o l c i:Nat}{k:be}(h:i<l):pc z (.slice (some ⟨b,o,none⟩) l c) (.int k (i:Int)) W=some (.pointer (some ⟨b,o+i*z,none⟩),W):=by unfold pc;simp only[lY,an h,dH]
def acH{len z b o i:Nat}{k:be}(h:i<len):ixA len z (.pointer (some ⟨b,o,none⟩)) (.int k (i:Int)) W=some (.pointer (some ⟨b,o+i*z,none⟩),W):=by unfold ixA;simp only[lY,an h,dH]
end
section
variable {P:ag} {W:AW}
def Tf{b o:Nat}:bz (.pointer (some ⟨b,o,none⟩)) W=(aH W b).bind λcs=>(cs[o]?).map λv=>(v,W):=by
 unfold bz;simp only;cases aH W b with
 |none=>rfl
 |some cs=>simp only[bJ,OE]
def JV{n b o:Nat}:dJ n (.pointer (some ⟨b,o,none⟩)) W=(aH W b).bind λcs=>if((cs.drop o).take n).length=n then some (.agg ((cs.drop o).take n).toArray,W)else none:=by
 unfold dJ;simp only[kh];cases aH W b with
 |none=>rfl
 |some cs=>
  simp only[bJ];by_cases h:((cs.drop o).take n).length=n
  ·rw[an h,an h];rfl
  ·rw[ap h,ap h];rfl
def aU(W:AW)(b:Nat):Option (List ad):=match W.get b with|some (.cells cs)=>some cs|_=>none
def jX{b:Nat}{cs:List ad}(h:aU W b=some cs):aH W b=some cs:=by
 unfold aU at h;split at h
 ·rename_i cV hg;injection h with h;subst h;exact ao hg
 ·cases h
def cR{b:Nat}{cs:List ad}(h:W.get b=some (.cells cs)):aU W b=some cs:=by unfold aU;rw[h]
def df{cs:List ad}:aU (W.add (.cells cs)) W.next=some cs:=cR (W.aI _)
def fP{b:Nat}(o:dI)(h:b<W.next):aU (W.add o) b=aU W b:=by unfold aU;rw[W.aE o (by omega)]
def b8{b:Nat}(cs:List ad):aU (W.put b (.cells cs)) b=some cs:=cR (W.aW _ _)
def bR{b c:Nat}(o:dI)(h:b≠c):aU (W.put b o) c=aU W c:=by unfold aU;rw[W.ay o h]
def Le.aU{W W':AW}(h:Le W W'){b:Nat}(hb:b<W.next):aU W' b=aU W b:=by unfold Eng.aU;rw[h.get b hb]
def Tl{n b o:Nat}{v:ad}:eZ n (.pointer (some ⟨b,o,none⟩)) v W=(aU W b).bind λcs=>if v.cells.size=n/\o+v.cells.toList.length<=cs.length/\v.cells.toList.all one=true then some (aj,W.put b (.cells (iG cs o v.cells.toList)))else none:=by
 unfold eZ aU;simp only[Jw];by_cases h:v.cells.size=n
 ·rw[an h];cases hg:W.get b with
  |none=>rfl
  |some obj=>
   cases obj with
   |cells cs=>
    simp only[bJ];by_cases h2:o+v.cells.toList.length<=cs.length/\v.cells.toList.all one=true
    ·rw[an h2,an ⟨h,h2⟩];rfl
    ·rw[ap h2,ap (λx=>h2 x.2)];rfl
   |_=>rfl
 ·rw[ap h];cases hg:W.get b with
  |none=>rfl
  |some obj=>
   cases obj with
   |cells cs=>simp only[bJ];rw[ap (λx=>h x.1)];rfl
   |_=>rfl
def rB(P:ag)(t:af):Option Nat:=match P.underlying t with
 |some (.slice e)=>oD P e
 |_=>none
def sZ{t:af}{z:Nat}(h:rB P t=some z):∃e,P.underlying t=some (.slice e)/\oD P e=some z:=by
 unfold rB at h;split at h
 ·rename_i e hu;exact⟨e,hu,h⟩
 ·cases h
def E6{t:af}{z:Nat}(hz:rB P t=some z){b o l c h:Nat}{k:be}(h1:h<=c)(h2:c<eG):
 ft P t (.slice (some ⟨b,o,none⟩) l c) none (some (.int k (h:Int))) none W=some (.slice (some ⟨b,o,none⟩) h c,W):=by
 obtain⟨e,he,hz⟩:=sZ hz;have hb:¬(c=eG+z/\0<z):=λx=>by omega
 have h0:((⟨b,o,none⟩:bg).add (0*z))=⟨b,o,none⟩:=by rw[dH];simp
 unfold ft nH;simp only[he,hz,fW,lY,qy,bi,ap hb,an (aC h2 h1),xG,h0,ite_self]
def LW{t:af}{z:Nat}(hz:rB P t=some z){k:be}:
 ft P t (.slice none 0 0) none (some (.int k (0:Nat))) none W=some (.slice none 0 0,W):=by
 obtain⟨e,he,hz⟩:=sZ hz;unfold ft nH;simp only[he,hz,fW,lY,aQ,mY,bi,xG]
def kZ(P:ag)(ts:Array af)(z bytes:Nat):Bool:=match ts.toList with
 |[t0,t1]=>Nat.beq t0 t1&&(match oc P t0 with
  |some e=>(match oD P e,(P.info? e).map (λi=>(i.zero,i.bytes))with
   |some z',some (some zv,ajM)=>Nat.beq z' z&&Nat.beq ajM bytes&&Nat.blt 0 z&&Nat.beq zv.cells.size z
   |_,_=>false)
  |none=>false)
 |_=>false
def sP{ts:Array af}{z bytes:Nat}(h:kZ P ts z bytes=true):∃t e zv,ts.toList=[t,t]/\oc P t=some e/\oD P e=some z/\(P.info? e).map (λi=>(i.zero,i.bytes))=some (some zv,bytes)/\0<z/\zv.cells.size=z:=by
 unfold kZ at h;split at h;case h_2=>cases h
 rename_i t0 t1 hl;simp only[bA,fq]at h;obtain⟨h0,h⟩:=h;subst h0;split at h;case h_2=>cases h
 rename_i e he;split at h;case h_2=>cases h
 rename_i z' zv b' h1 h2;simp only[bA,fq,jG]at h;obtain⟨⟨⟨h3,h4⟩,h5⟩,h6⟩:=h;subst h3;subst h4;exact⟨t0,e,zv,hl,he,h1,h2,h5,h6⟩
def IA{ts:Array af}{z bytes:Nat}(hk:kZ P ts z bytes=true){b o n c:Nat}{cs new:List ad}(hc:aH W b=some cs)(hn:new=(cs.drop o).take (n*z))(hl:new.length=n*z)(h0:0<n)(h1:new.all one=true)
 (hb:n<1099511627776)(lF:(2*n+192)*bytes<=281474976710656):
 dn P W ts (.slice none 0 0) (.slice (some ⟨b,o,none⟩) n c)=some (.slice (some ⟨W.next,0,none⟩) n (eG+z),W.add (.cells new)):=by
 obtain⟨t,e,zv,k1,k2,k3,k4,k5,k6⟩:=sP hk;have hr:pH W b o (n*z)=some new:=by rw[kh,hc];simp only;rw[an (by rw[<-hn];exact hl),hn]
 have hB:(0:Nat)<eG:=by unfold eG;omega
 have SZ:¬(0:Nat)=eG+z:=by unfold eG;omega
 have hr1:cq W (.slice (some ⟨b,o,none⟩) n c) (n*z)=some new:=by unfold cq;simp only;rw[ap (by have:=qw h0 k5;omega),bM];exact hr
 have hr2:cq W (.slice none 0 0) (0*z)=some []:=by unfold cq;simp
 unfold dn;simp only[k1,k2,k3,k4,bi,aJ,an (aC k5 (aC k6 (aC hb lF))),ap (show¬n=0 by omega),hr1,hr2,h1,ap SZ,an hB,mY,jF,AW.dX]
def Pw{ts:Array af}{z bytes:Nat}(hk:kZ P ts z bytes=true){b o n c:Nat}{cs new:List ad}(hc:aH W b=some cs)(hn:new=(cs.drop o).take (n*z))(hl:new.length=n*z)(h0:0<n)(h1:new.all one=true)
 {B m:Nat}{wT:List ad}(ho:W.get B=some (.cells wT))(Ns:wT.length=m*z)
 (hb:m+n<1099511627776)(lF:(2*(m+n)+192)*bytes<=281474976710656)(hm:0<m):
 dn P W ts (.slice (some ⟨B,0,none⟩) m (eG+z)) (.slice (some ⟨b,o,none⟩) n c)=some (.slice (some ⟨W.next,0,none⟩) (m+n) (eG+z),(W.kill B).add (.cells (wT++new))):=by
 obtain⟨t,e,zv,k1,k2,k3,k4,k5,k6⟩:=sP hk;have hr:pH W b o (n*z)=some new:=by rw[kh,hc];simp only;rw[an (by rw[<-hn];exact hl),hn]
 have hr1:cq W (.slice (some ⟨b,o,none⟩) n c) (n*z)=some new:=by unfold cq;simp only;rw[ap (by have:=qw h0 k5;omega),bM];exact hr
 have uK:pH W B 0 (m*z)=some wT:=by rw[kh,ao ho];simp only[jj];rw[oz (by omega),an Ns]
 have hr2:cq W (.slice (some ⟨B,0,none⟩) m (eG+z)) (m*z)=some wT:=by unfold cq;simp only;rw[ap (by have:=qw hm k5;omega),bM];exact uK
 unfold dn;simp only[k1,k2,k3,k4,bi,an (aC k5 (aC k6 (aC hb lF))),ap (show¬n=0 by omega),hr1,hr2,h1,ho,AW.dX,AW.dr]
end
def UW{body:ai.Fr->AW->Option LT}:∀(n m:Nat) (I:Nat->ai.Fr->AW->Prop) (Q:LT->Prop) (R:ai.Fr) (W:AW),n<m->I 0 R W->
 (∀k R W,k<n->I k R W->∃r,body R W=some r/\((r.1=.normal/\I (k+1) r.2.1 r.2.2)\/(r.1≠ .normal/\Q r)))->
 (∀R W,I n R W->∃r,body R W=some r/\r.1≠ .normal/\Q r)->∃r,mL body m R W=some r/\r.1≠ .normal/\Q r:=by
 intro n;induction n with
 |zero=>
  intro m I Q R W hm h0 _ he;obtain⟨m,rfl⟩:∃k,m=k+1:=⟨m-1,by omega⟩;obtain⟨⟨x,R',W'⟩,h1,h2,h3⟩:=he R W h0;refine⟨_,?_,h2,h3⟩;unfold mL;rw[h1];cases x with
  |normal=>exact absurd rfl h2
  |exit i=>rfl
  |ret=>rfl
 |succ n ih=>
  intro m I Q R W hm h0 hs he;obtain⟨m,rfl⟩:∃k,m=k+1:=⟨m-1,by omega⟩;obtain⟨⟨x,R',W'⟩,h1,h2⟩:=hs 0 R W (by omega) h0;rcases h2 with⟨h2,h3⟩|⟨h2,h3⟩
  ·simp only at h2 h3;subst h2;obtain⟨r,k1,k2,k3⟩:=ih m (λk=>I (k+1)) Q R' W' (by omega) h3 (λk R W hk hI=>hs (k+1) R W (by omega) hI) he;refine⟨r,?_,k2,k3⟩;unfold mL;rw[h1];exact k1
  ·refine⟨_,?_,h2,h3⟩;unfold mL;rw[h1];cases x with
   |normal=>exact absurd rfl h2
   |exit i=>rfl
   |ret=>rfl
def XP{body:ai.Fr->AW->Option LT}(n:Nat)(hn:n<1000000)(I:Nat->ai.Fr->AW->Prop)(Q:LT->Prop){R:ai.Fr}{W:AW}(h0:I 0 R W)
 (hs:∀k R W,k<n->I k R W->∃r,body R W=some r/\((r.1=.normal/\I (k+1) r.2.1 r.2.2)\/(r.1≠ .normal/\Q r)))
 (he:∀R W,I n R W->∃r,body R W=some r/\r.1≠ .normal/\Q r):∃r,fZ body R W=some r/\Q r:=by
 rw[Sd];obtain⟨r,h1,_,h2⟩:=UW n 1000000 I Q R W hn h0 hs he;exact⟨r,h1,h2⟩
end
section
variable [ai]
def akh(P:ag)(i nt n:Nat):Bool:=match P.funcs[i]? with
 |some fn=>fn.body.isSome&&(Nat.beq fn.ntmps nt&&Nat.ble n nt)
 |none=>false
def aoQ{P:ag}{bad:List Nat}{spec:Callee}{i nt n:Nat}(hb:PG i bad=false)(hk:akh P i nt n=true){fs cs:Array ad}{args:List ad}(hn:fs.toList.length+(args.length+cs.toList.length)=n){W:AW}{r:ad×AW}
 (h:abX P (om P bad spec) nt (Ph P i) (ad7 P i) (fs.toList++(args++cs.toList)) W=some r):om P bad spec (.func (.func i) fs cs) args W=some (gc W r):=by
 unfold akh at hk;unfold Ph ad7 at h;cases hf:P.funcs[i]? with
 |none=>rw[hf]at hk;cases hk
 |some fn=>
  rw[hf]at hk h;simp only[bA,fq]at hk h;obtain⟨h1,h2,h3⟩:=hk;cases hc:fn.body with
  |none=>rw[hc]at h1;cases h1
  |some c=>rw[hc]at h;simp only at h;subst h2;exact amX hb hf hc (by rw[hn];exact h3) h
end
section
variable [ai]
@[congr] theorem anw {α ρ:Type} {x y:Option α} {g:α->Option ρ} (h:x=y):fb x g=fb y g:=by rw[h]
@[congr] theorem anv {ρ:Type} {c d:Bool} {a b:ρ} (h:c=d):qJ c a b=qJ d a b:=by rw[h]
@[congr] theorem anr {ρ:Type} {c d:ad} {a b:Option ρ} (h:c=d):PE c a b=PE d a b:=by rw[h]
@[congr] theorem aiv {ρ:Type} {i:Nat} {x y:X} {a b:Option ρ} (h:x=y):BY i x a b=BY i y a b:=by rw[h]
@[congr] theorem aiE {ρ:Type} {x y:X} {a b:Option ρ} (h:x=y):yn x a b=yn y a b:=by rw[h]
@[congr] theorem ais {ρ:Type} {x y:X} {a:Option ρ} (h:x=y):I9 x a=I9 y a:=by rw[h]
theorem akI{W W':AW}{k:be}{n:Int}(h:Le W W'):gc W (.int k n,W')=(.int k n,W):=Ej rfl h
def Ii{W W':AW}{b:Bool}(h:Le W W'):gc W (.bool b,W')=(.bool b,W):=Ej rfl h
section
variable {P:ag} {W:AW}
def YQ{k:be}{n:Int}(h:0<=n):lY (.int k n)=some n.toNat:=by obtain⟨m,rfl⟩:∃m:Nat,n=(m:Int):=⟨n.toNat,by omega⟩;exact aS rfl rfl
def Wo{len z b o:Nat}{k:be}{n:Int}(h0:0<=n)(h:n.toNat<len):ixA len z (.pointer (some ⟨b,o,none⟩)) (.int k n) W=some (.pointer (some ⟨b,o+n.toNat*z,none⟩),W):=by unfold ixA;simp only[YQ h0,an h,dH]
def agL(g:Nat):aqM g=.pointer (some ⟨g,0,none⟩):=aS rfl rfl
def i8(W:AW)(o o':dI):(W.add o).put W.next o'=W.add o':=by unfold AW.add AW.put;simp only[T.set_set]
def agb(W:AW)(b:Nat)(o o':dI):(W.put b o).put b o'=W.put b o':=by unfold AW.put;simp only[T.set_set]
def YE(cs:Array ad):(Value.agg cs).cells=cs:=aS rfl rfl
def abc(cs:List ad)(o:Nat)(v:ad)(h:o<cs.length):iG cs o [v]=cs.set o v:=by unfold iG;rw[Ie];simp[h]
def qC{b o:Nat}{v:ad}(h:v.cells=#[v])(h1:one v=true):eZ 1 (.pointer (some ⟨b,o,none⟩)) v W=(aU W b).bind λcs=>if o<cs.length then some (aj,W.put b (.cells (cs.set o v)))else none:=by
 rw[Tl,h];congr 1;funext cs;by_cases hl:o<cs.length
 ·rw[an hl,an ⟨rfl,by simp;omega,by simp[h1]⟩,abc _ _ _ hl]
 ·rw[ap hl,ap (λx=>hl (by have:=x.2.1;simp at this;omega))]
def uZ{b o:Nat}{k:be}{n:Int}:eZ 1 (.pointer (some ⟨b,o,none⟩)) (.int k n) W=(aU W b).bind λcs=>if o<cs.length then some (aj,W.put b (.cells (cs.set o (.int k n))))else none:=qC rfl rfl
def Ap{b o:Nat}{x:Bool}:eZ 1 (.pointer (some ⟨b,o,none⟩)) (.bool x) W=(aU W b).bind λcs=>if o<cs.length then some (aj,W.put b (.cells (cs.set o (.bool x))))else none:=qC rfl rfl
def TH{b o:Nat}{x:ByteArray}:eZ 1 (.pointer (some ⟨b,o,none⟩)) (.string x) W=(aU W b).bind λcs=>if o<cs.length then some (aj,W.put b (.cells (cs.set o (.string x))))else none:=qC rfl rfl
def js{b o:Nat}{x:Option bg}{l c:Nat}:eZ 1 (.pointer (some ⟨b,o,none⟩)) (.slice x l c) W=(aU W b).bind λcs=>if o<cs.length then some (aj,W.put b (.cells (cs.set o (.slice x l c))))else none:=qC rfl rfl
def Do{n b o:Nat}{vs:Array ad}:eZ n (.pointer (some ⟨b,o,none⟩)) (.agg vs) W=(aU W b).bind λcs=>if vs.size=n/\o+vs.toList.length<=cs.length/\vs.toList.all one=true then some (aj,W.put b (.cells (iG cs o vs.toList)))else none:=Tl
def cF(k:be)(n:Int):one (.int k n)=true:=aS rfl rfl
def qc(s:ByteArray):one (.string s)=true:=aS rfl rfl
def acS(s:Bool):one (.bool s)=true:=aS rfl rfl
def cL(a:Option bg)(l c:Nat):one (.slice a l c)=true:=aS rfl rfl
def aeJ{r:Option (ad×AW)}{u v:ad}{W':AW}(h:r=some (u,W'))(h2:iD u v=true):kA true r v=true:=by subst h;exact h2
def lK(k:be)(n:Int):iD (.int k n) (.int k n)=true:=by simp[iD,zG]
def I6(b:Bool):iD (.bool b) (.bool b)=true:=by simp[iD,zG]
def Pb(s:ByteArray):iD (.string s) (.string s)=true:=by simp[iD,zG,ED]
def sA{t:af}{c d:Bool}{x y:Array ad}{r:Bool}(hg:P.eqGuardType P.depth t=false)(h:NC P 8 t (.agg x) (.agg y)=some r):bO P .neq t c d (.agg x) (.agg y) W=some (.bool (!r),W):=by
 have h0:pB P W t (.agg x) (.agg y)=none:=by unfold pB;split<;>first|rfl|simp_all
 unfold bO rP;simp only[h0,Ka,hg,ik,cn,h,dA]
def yl:List (Int×Int)->Option Bool
 |[]=>some true
 |p::l=>match some (p.1==p.2)with
  |some true=>yl l
  |some false=>some false
  |none=>none
def tS:∀l:List (Int×Int),yl l=some (l.all λp=>p.1==p.2)
 |[]=>rfl
 |p::l=>by
  unfold yl;cases h:p.1==p.2 with
  |true=>simp only[dC,h,il];exact tS l
  |false=>simp only[dC,h,p8]
def NH(k:be)(n:Int):zG (.int k n) (.int k n)=true:=by simp[zG]
def K8(s:ByteArray):zG (.string s) (.string s)=true:=by simp[zG,ED]
def aet(s:Bool):zG (.bool s) (.bool s)=true:=by simp[zG]
def AV(b o l c:Nat):zG (.slice (some ⟨b,o,none⟩) l c) (.slice (some ⟨b,o,none⟩) l c)=true:=by simp[zG,Fq]
def Qx(l c:Nat):zG (.slice none l c) (.slice none l c)=true:=by simp[zG]
def Wq(b o:Nat):zG (.pointer (some ⟨b,o,none⟩)) (.pointer (some ⟨b,o,none⟩))=true:=by simp[zG,Fq]
def pV{cs:Array ad}(h:Y5 cs.toList cs.toList=true):iD (.agg cs) (.agg cs)=true:=h
def Vi(a b c d:ad)(h1:zG a a=true)(h2:zG b b=true)(h3:zG c c=true)(h4:zG d d=true):iD (.agg #[a,b,c,d]) (.agg #[a,b,c,d])=true:=pV (by simp[Y5,h1,h2,h3,h4])
def fQ(b o l c:Nat):iD (.slice (some ⟨b,o,none⟩) l c) (.slice (some ⟨b,o,none⟩) l c)=true:=AV b o l c
def Ur(l c:Nat):iD (.slice none l c) (.slice none l c)=true:=Qx l c
def XB(b o:Nat):iD (.pointer (some ⟨b,o,none⟩)) (.pointer (some ⟨b,o,none⟩))=true:=Wq b o
def dd{u v:ad}{W':AW}:kA true (some (u,W')) v=iD u v:=aS rfl rfl
end
def Ok{ρ:Type}(t:Option ρ)(G:ρ->Prop):Prop:=∃x,t=some x/\G x
def ah{ρ:Type}{x:ρ}{G:ρ->Prop}:Ok (some x) G<->G x:=⟨λ⟨y,h,g⟩=>by injection h with h;subst h;exact g,λg=>⟨x,rfl,g⟩⟩
def Ok.mono{ρ:Type}{t:Option ρ}{G H:ρ->Prop}(h:Ok t G)(hg:∀x,G x->H x):Ok t H:=let⟨x,a,b⟩:=h;⟨x,a,hg x b⟩
def bh{ρ:Type}{body:ai.Fr->AW->Option LT}{R:ai.Fr}{W:AW}{K:LT->Option ρ}{G:ρ->Prop}(n:Nat)(hn:n<1000000)(I:Nat->ai.Fr->AW->Prop)(Q:LT->Prop)(h0:I 0 R W)
 (hs:∀k R W,k<n->I k R W->Ok (body R W) λr=>(r.1=.normal/\I (k+1) r.2.1 r.2.2)\/(r.1≠ .normal/\Q r))
 (he:∀R W,I n R W->Ok (body R W) λr=>r.1≠ .normal/\Q r)(hk:∀r,Q r->Ok (K r) G):Ok (fb (fZ body R W) K) G:=by
 obtain⟨r,h1,h2⟩:=XP n hn I Q h0 hs he;rw[h1,Dk];exact hk r h2
def aP{o t:Option (ad×AW)}{v:ad}{W:AW}(hv:(bL v&& !Za v)=true)(h:Ok t λr=>r.1=v/\Le W r.2)(Nr:∀{r},t=some r->o=some (gc W r)):o=some (v,W):=by obtain⟨⟨u,W'⟩,h1,h2,h3⟩:=h;simp only at h2;subst h2;rw[Nr h1,Ej hv h3]
def Row{α:Type}(W:AW)(z:Nat)(at_:List ad->Nat->α->Prop)(v:ad)(l:List α):Prop:=
 ∃a c,v=.slice a l.length c/\(l=[]\/∃b o cs,a=some ⟨b,o,none⟩/\b<W.next/\aH W b=some cs/\∀i (h:i<l.length),at_ cs (o+i*z) l[i])
def IN(k:be)(cs:List ad)(p:Nat)(n:Int):Prop:=cs[p]? =some (.int k n)
abbrev gG(W:AW)(v:ad)(l:List Int):Prop:=Row W 1 (IN .i64) v l
def Row.mono{α:Type}{W W':AW}{z:Nat}{at_:List ad->Nat->α->Prop}{v:ad}{l:List α}(h:Row W z at_ v l)(aM:Le W W'):Row W' z at_ v l:=by
 obtain⟨a,c,rfl,h⟩:=h;refine⟨a,c,rfl,?_⟩;rcases h with h|⟨b,o,cs,h1,h2,h3,h4⟩
 ·exact .inl h
 ·exact .inr ⟨b,o,cs,h1,ff h2 aM.next,by rw[aM.aH h2];exact h3,h4⟩
def Row.len{α:Type}{W:AW}{z:Nat}{at_:List ad->Nat->α->Prop}{v:ad}{l:List α}(h:Row W z at_ v l){P:ag}{ts:Array af}{e:af}(ht:(ts[0]?).bind P.underlying=some (.slice e))(W':AW)(ty:af)(cf:Array Bool):
 aV P .len ts ty cf [v] W'=some (.ae l.length,W'):=by
 obtain⟨a,c,rfl,_⟩:=h;exact dg ht _ _ _
def Row.elem{α:Type}{W:AW}{z:Nat}{at_:List ad->Nat->α->Prop}{v:ad}{l:List α}(h:Row W z at_ v l){i:Nat}(hi:i<l.length):
 ∃b o cs,(∀W' k,pc z v (.int k (i:Int)) W'=some (.pointer (some ⟨b,o,none⟩),W'))/\b<W.next/\aH W b=some cs/\at_ cs o l[i]:=by
 obtain⟨a,c,rfl,h⟩:=h;rcases h with rfl|⟨b,o,cs,rfl,h2,h3,h4⟩
 ·simp at hi
 ·exact⟨b,o+i*z,cs,λW' k=>oq hi,h2,h3,h4 i hi⟩
def gG.get{W:AW}{v:ad}{l:List Int}(h:gG W v l){i:Nat}(hi:i<l.length):
 ∃p,(∀W' k,pc 1 v (.int k (i:Int)) W'=some (p,W'))/\∀W',Le W W'->bz p W'=some (.ae l[i],W'):=by
 obtain⟨b,o,cs,h1,h2,h3,h4⟩:=h.elem hi;exact⟨_,h1,λW' aM=>aO (by rw[aM.aH h2];exact h3) h4⟩
end
end Go.Eng
namespace Go.Eng
open Go Go.RowKit
section
variable [ai]
def Tp:Option (ad×AW)->Bool
 |some (v,_)=>match v with
  |.bool b=>b
  |_=>false
 |none=>false
def Yv{r:Option (ad×AW)}(h:Tp r=true):∃W,r=some (.bool true,W):=by
 unfold Tp at h;split at h
 ·rename_i v W;split at h
  ·subst h;exact⟨W,rfl⟩
  ·cases h
 ·cases h
def Un{P:ag}{ng:List Nat}:cl P ng (λ_ _ _=>none):=λf args W v W' h=>by cases h
def Vs(W w':ar):Prop:=W.keptBut w' (λ_=>False)/\(∀a:bg,a.block<W.heap.size->w'.frozen? a=W.frozen? a)/\W.heap.size<=w'.heap.size
def Vs.frame{W w':ar}(h:Vs W w')(may:di->Prop):W.keptBut w' may:=World.keptBut_mono (λ_ f=>f.elim) h.1
def TD{σ:dz}:∀{args:List ad},args.all bL=true->LR σ args args:=by intro args h;exact LR.qA (λv=>jM) h
end
section
variable [ai]
def σG(gs:List (Nat×List ad)):dz:=λb=>(gs.find? (λx=>x.1==b)).map λx=>⟨x.1,0,x.2.length⟩
def IT(gs:List (Nat×List ad)):T dI:=gs.foldr (λx t=>T.set (some (.ro x.2)) (path x.1) t) .lf
def WG(gs:List (Nat×List ad))(N:Nat):AW:=⟨IT gs,N⟩
def A3(b:Nat):∀gs:List (Nat×List ad),T.get (path b) (IT gs)=(gs.find? (λx=>x.1==b)).map λx=>dI.ro x.2
 |[]=>T.Fp _
 |x::gs=>by
  show T.get (path b) (T.set (some (.ro x.2)) (path x.1) (IT gs))=_;by_cases h:x.1=b
  ·subst h;rw[T.oX];simp
  ·rw[T.iL _ _ _ _ (AE h),A3 b gs];have hb:(x.1==b)=false:=by simpa using h
   rw[List.find?_cons,hb]
def GR(gs:List (Nat×List ad))(h:Array Obj):Prop:=
 ∀x∈gs,∃c t fr,h[x.1]? =some (.cells c t fr)/\∀(i:Nat) (v:ad),x.2[i]? =some v->c[i]? =some v/\cC v=true
def wH{gs:List (Nat×List ad)}{b:Nat}{g:zY}(h:σG gs b=some g):∃x∈gs,x.1=b/\g=⟨b,0,x.2.length⟩/\T.get (path b) (IT gs)=some (dI.ro x.2):=by
 unfold σG at h;cases hf:gs.find? (λx=>x.1==b)with
 |none=>rw[hf]at h;cases h
 |some x=>
  rw[hf]at h;have hb:x.1=b:=by simpa using List.find?_some hf
  refine⟨x,Pf hf,hb,?_,?_⟩
  ·cases h;subst hb;rfl
  ·show T.get (path b) (IT gs)=_;rw[A3,hf];rfl
def aiR{gs:List (Nat×List ad)}{N:Nat}(hN:gs.all (λx=>Nat.blt x.1 N)=true){h:Array Obj}(hl:GR gs h):bI (σG gs) (WG gs N) h where
 free b hb:=by
  show T.get (path b) (IT gs)=none;rw[A3];cases hf:gs.find? (λx=>x.1==b)with
  |none=>rfl
  |some x=>
   have ZK:x.1=b:=by simpa using List.find?_some hf
   have:=db.1 hN x (Pf hf);have:x.1<N:=by simpa[jG]using this
   exact absurd hb (by show¬N<=b;omega)
 qL b g hb:=by
  obtain⟨x,hx,rfl,rfl,_⟩:=wH hb;obtain⟨c,t,fr,h1,_⟩:=hl x hx;have:=db.1 hN x hx;have h3:x.1<N:=by simpa[jG]using this
  exact⟨h3,(eV.1 h1).1⟩
 obj b o g hb hg:=by obtain⟨x,hx,rfl,rfl,ht⟩:=wH hg;obtain⟨c,t,fr,h1,h2⟩:=hl x hx;obtain rfl:o=.ro x.2:=AQ (hb.symm.trans ht);exact⟨c,t,fr,h1,by simp,λi v hv=>⟨v,by simpa using(h2 i v hv).1,fM (h2 i v hv).2⟩⟩
 vF b1 b2 o1 o2 g1 g2 fp _ _ h1 h2 _:=by obtain⟨x1,_,rfl,rfl,_⟩:=wH h1;obtain⟨x2,_,rfl,rfl,_⟩:=wH h2;exact .inl fp
def abl{gs:List (Nat×List ad)}{ng:List Nat}(h:ng.all (λg=>(gs.find? (λx=>x.1==g)).isSome)=true):BC (σG gs) ng:=by
 intro g hg;have:=db.1 h g hg;cases hf:gs.find? (λx=>x.1==g)with
 |none=>rw[hf]at this;cases this
 |some x=>
  have ZK:x.1=g:=by simpa using List.find?_some hf
  exact⟨x.2.length,by unfold σG;rw[hf];subst ZK;rfl⟩
def ars{gs:List (Nat×List ad)}{N:Nat}{B:Nat}:¬Mut (σG gs) (WG gs N) B:=by rintro⟨b,g,hg,_,uK⟩;obtain⟨x,_,_,_,ht⟩:=wH hg;exact uK x.2 ht
end
end Go.Eng
namespace Go.Eng
open Go Go.RowKit Go.ChangeShapes
section
variable {H:Type} {enc:af×ad->H} {P:ag} {w:ar} {base:Nat} {aca:Nat->Bool} {held:Bool}
end
end Go.Eng
namespace Go.Eng
open Go Go.RowKit
open Go.Maps (Keyed)
section
variable [ai]
section
variable {H:Type}
def ent(j:Nat)(g b:Bool):List (Lit×cp H):=match g with|true=>[(.ae ((2^ j:Nat):Int),.lit (.bool b))]|false=>[]
def OV(g0 g1 g2 g3 g4 g5 g6 g7 b0 b1 b2 b3 b4 b5 b6 b7:Bool):cp H:=
 .map (ent 0 g0 b0++(ent 1 g1 b1++(ent 2 g2 b2++(ent 3 g3 b3++(ent 4 g4 b4++(ent 5 g5 b5++(ent 6 g6 b6++ent 7 g7 b7)))))))
variable (g0 g1 g2 g3 g4 g5 g6 g7 b0 b1 b2 b3 b4 b5 b6 b7:Bool)
def av0:(OV (H:=H) g0 g1 g2 g3 g4 g5 g6 g7 b0 b1 b2 b3 b4 b5 b6 b7).put (.ae 1) (.lit (.bool b0))=OV true g1 g2 g3 g4 g5 g6 g7 b0 b1 b2 b3 b4 b5 b6 b7:=by cases g0<;>cases g1<;>cases g2<;>cases g3<;>cases g4<;>cases g5<;>cases g6<;>cases g7<;>rfl
def auP:(OV (H:=H) g0 g1 g2 g3 g4 g5 g6 g7 b0 b1 b2 b3 b4 b5 b6 b7).put (.ae 2) (.lit (.bool b1))=OV g0 true g2 g3 g4 g5 g6 g7 b0 b1 b2 b3 b4 b5 b6 b7:=by cases g0<;>cases g1<;>cases g2<;>cases g3<;>cases g4<;>cases g5<;>cases g6<;>cases g7<;>rfl
def avv:(OV (H:=H) g0 g1 g2 g3 g4 g5 g6 g7 b0 b1 b2 b3 b4 b5 b6 b7).put (.ae 4) (.lit (.bool b2))=OV g0 g1 true g3 g4 g5 g6 g7 b0 b1 b2 b3 b4 b5 b6 b7:=by cases g0<;>cases g1<;>cases g2<;>cases g3<;>cases g4<;>cases g5<;>cases g6<;>cases g7<;>rfl
def avr:(OV (H:=H) g0 g1 g2 g3 g4 g5 g6 g7 b0 b1 b2 b3 b4 b5 b6 b7).put (.ae 8) (.lit (.bool b3))=OV g0 g1 g2 true g4 g5 g6 g7 b0 b1 b2 b3 b4 b5 b6 b7:=by cases g0<;>cases g1<;>cases g2<;>cases g3<;>cases g4<;>cases g5<;>cases g6<;>cases g7<;>rfl
def awf:(OV (H:=H) g0 g1 g2 g3 g4 g5 g6 g7 b0 b1 b2 b3 b4 b5 b6 b7).put (.ae 16) (.lit (.bool b4))=OV g0 g1 g2 g3 true g5 g6 g7 b0 b1 b2 b3 b4 b5 b6 b7:=by cases g0<;>cases g1<;>cases g2<;>cases g3<;>cases g4<;>cases g5<;>cases g6<;>cases g7<;>rfl
def aum:(OV (H:=H) g0 g1 g2 g3 g4 g5 g6 g7 b0 b1 b2 b3 b4 b5 b6 b7).put (.ae 32) (.lit (.bool b5))=OV g0 g1 g2 g3 g4 true g6 g7 b0 b1 b2 b3 b4 b5 b6 b7:=by cases g0<;>cases g1<;>cases g2<;>cases g3<;>cases g4<;>cases g5<;>cases g6<;>cases g7<;>rfl
def awI:(OV (H:=H) g0 g1 g2 g3 g4 g5 g6 g7 b0 b1 b2 b3 b4 b5 b6 b7).put (.ae 64) (.lit (.bool b6))=OV g0 g1 g2 g3 g4 g5 true g7 b0 b1 b2 b3 b4 b5 b6 b7:=by cases g0<;>cases g1<;>cases g2<;>cases g3<;>cases g4<;>cases g5<;>cases g6<;>cases g7<;>rfl
def auU:(OV (H:=H) g0 g1 g2 g3 g4 g5 g6 g7 b0 b1 b2 b3 b4 b5 b6 b7).put (.ae 128) (.lit (.bool b7))=OV g0 g1 g2 g3 g4 g5 g6 true b0 b1 b2 b3 b4 b5 b6 b7:=by cases g0<;>cases g1<;>cases g2<;>cases g3<;>cases g4<;>cases g5<;>cases g6<;>cases g7<;>rfl
end
def T7{H:Type}{P:ag}{k e t:af}{w:ar}{R:ad->Option (cp H×List di)}{b n:Nat}{D:cp H}(h:w.ownsMap P k R b n D)(K:Keyed P k)(ht:P.underlying t=some (.map k e))(hn:n<maxLen){key val:ad}{kl:Lit}{d:cp H}{ps:List di}
 (QD:keyOf P k key=some kl)(hv:R val=some (d,ps)):∃w',(Instr.mapUpdate t (.map (some b)) key val).run P w=.ok () w'/\w'.ownsMap P k R b (n+1) (D.put kl d)/\w.grownBy w' (some b)/\w'.heap.size=w.heap.size:=by
 obtain⟨w',h1,h2,h3⟩:=h.update K ht hn QD hv;obtain⟨es,nW,hb,F,hs,rfl⟩:=h;obtain⟨iW,asB,kP,_⟩:=Maps.fit_store (R':=R) K ht hb F (Nat.lt_of_le_of_lt hs hn) (λ_ _ _ _ hz=>hz) QD hv;refine⟨w',h1,h2,h3,?_⟩;rw[kP]at h1;injection h1 with _ h1;rw[<-h1];simp[Go.ChangeMaps.setBlock]
def Qo{H:Type}{P:ag}{k:af}{w:ar}{R:ad->Option (cp H×List di)}{b n:Nat}{D:cp H}(h:w.ownsMap P k R b n D){a:bg}(ha:a.block=b):w.frozen? a=false:=by obtain⟨es,nW,hb,_⟩:=h;unfold World.frozen?;rw[ha,hb]
def sJ{w:ar}{a:bg}(h:w.heap.size<=a.block):w.frozen? a=false:=by unfold World.frozen?;rw[An h]
def EY{σ0 σ:dz}{W0 W:AW}{w0 w w':ar}(h:fT σ0 W0 w0 σ W w){m:Nat}(hm:w0.heap.size<=m)(hg:w.grownBy w' (some m))(ET:∀a,w'.frozen? a=w.frozen? a):fT σ0 W0 w0 σ W w':=
 ⟨h.sub,h.ro,eS h.size hg.size,hg.os.trans h.os,hg.tape.trans h.tape,hg.output.trans h.output,
  λB hB hn=>(hg.block B (ff hB h.size) (λe=>by injection e with e;omega)).trans (h.keep B hB hn),h.ghost,h.grow⟩
def Fc{σ:dz}{W:AW}{w w':ar}(h:bI σ W w.heap){m:Nat}(hm:∀b g,σ b=some g->g.B≠m)(hg:w.grownBy w' (some m)):bI σ W w'.heap where
 free:=h.free
 qL b g hb:=⟨(h.qL b g hb).1,ff (h.qL b g hb).2 hg.size⟩
 obj b o g hb hσ:=(h.obj b o g hb hσ).same (hg.block _ (h.qL b g hσ).2 (λe=>by injection e with e;exact hm b g hσ e))
 vF:=h.vF
def Ck(e:Nat)(o:am):Bool:=o.after.any λx=>Region.binds .any x&&Nat.beq x.on e
def iO{e:Nat}{o:am}{listed:Array Bool}(h:Ck e o=true)(hr:∀x∈o.after,Region.binds .any x=true->listed.getD x.on false=true):listed.getD e false=true:=by unfold Ck at h;rw[Array.any_eq_true']at h;obtain⟨x,hx,hb⟩:=h;rw[bA,fq]at hb;obtain⟨hb,rfl⟩:=hb;exact hr x hx hb
def ab3(ops:Array am)(o:am)(x:au):Bool:=match x with
 |.const v=>bL v
 |.tmp t=>Nat.beq t 1||o.after.any λe=>Region.binds .any e&&(match ops[e.on]? with|some o'=>(match o'.dst with|some d=>Nat.beq d t&&(Nat.blt 14 d&&Nat.blt d 40)|none=>false)|none=>false)
 |_=>false
def Vt(ops:Array am)(o:am):Bool:=o.guard.isNone&&(match o.dst with|some d=>Nat.blt 14 d&&Nat.blt d 40|none=>false)&&o.op.operands.toList.all (ab3 ops o)
def uH(ops:Array am)(TM key s k:Nat)(o:am):Bool:=o.guard.isNone&&o.dst.isNone&&Ck 0 o&&Ck k o&&
 (match o.op with|.insert t (.tmp m) (.const (.int .i64 (.ofNat n))) (.tmp v)=>Nat.beq t TM&&Nat.beq m 14&&Nat.beq n key&&Nat.beq v s&&Nat.blt 14 s&&Nat.blt s 40|_=>false)&&
 (match ops[k]? with|some o'=>(match o'.dst with|some d=>Nat.beq d s|none=>false)|none=>false)
def lT(ops:Array am)(TM:Nat)(i:Nat)(o:am):Bool:=match i with
 |0=>o.guard.isNone&&(match o.op,o.dst with|.makeMap t none,some d=>Nat.beq t TM&&Nat.beq d 14|_,_=>false)
 |4=>uH ops TM 1 17 3 o
 |8=>uH ops TM 2 20 7 o
 |12=>uH ops TM 4 23 11 o
 |16=>uH ops TM 8 26 15 o
 |20=>uH ops TM 16 29 19 o
 |24=>uH ops TM 32 32 23 o
 |29=>uH ops TM 64 36 28 o
 |33=>uH ops TM 128 39 32 o
 |34=>o.guard.isNone&&(match o.op,o.dst with|.move (.tmp x),some d=>Nat.beq x 14&&Nat.beq d 40|_,_=>false)&&(List.range 34).all λe=>Ck e o
 |35=>o.guard.isNone&&(match o.op,o.dst with|.range t (.tmp x),some d=>Nat.beq t TM&&Nat.beq x 40&&Nat.beq d 41|_,_=>false)&&Ck 34 o
 |_=>Vt ops o
def kE(i:Nat):Bool:=match i with|0|4|8|12|16|20|24|29|33|34|35=>false|_=>true
def Py(i:Nat)(o:am):Bool:=o.after.all λe=>Nat.blt e.on i
def Og(ops:Array am)(TM:Nat):Bool:=Nat.beq ops.size 36&&(List.range 36).all λi=>match ops[i]? with|some o=>lT ops TM i o&&Py i o|none=>false
def xl{P:ag}{ops:Array am}{Q:dx->bw->ar->Prop}{i:Nat}{K:bw->ar->Prop}{a:bw}{w w':ar}{o:am}{v:ad}(ho:ops[i]? =some o)(hg:o.guard=none)
 (h:(execOp a.eval o).run P w=.ok (.value v) w')(hk:K (a.put o.dst v) w'):wpOp P ops Q i K a w:=by
 unfold wpOp;rw[ho];have:Region.wanted o (yielded ops a.tmps)=true:=by unfold Region.wanted;rw[hg]
 simp only[this,bi];refine .inl ?_;unfold Oper.wp;rw[h];exact hk
def Nt{P:ag}{ops:Array am}{Q:dx->bw->ar->Prop}{i:Nat}{K:bw->ar->Prop}{a:bw}{w w':ar}{o:am}(ho:ops[i]? =some o)(hg:o.guard=none)
 (h:(execOp a.eval o).run P w=.ok .skip w')(hk:K (a.put o.dst aj) w'):wpOp P ops Q i K a w:=by
 unfold wpOp;rw[ho];have:Region.wanted o (yielded ops a.tmps)=true:=by unfold Region.wanted;rw[hg]
 simp only[this,bi];refine .inl ?_;unfold Oper.wp;rw[h];exact hk
section
variable {P:ag} {ops:Array am} {nt TM TK TE:Nat} {σ0:dz} {W:AW} {R:ai.Fr} {w0:ar} {rO:Array ad} {ds:List eh} {b0 b1 b2 b3 b4 b5 b6 b7:Bool} {l:Array Bool} {a:bw} {w:ar}
def Dl(l:Array Bool)(b0 b1 b2 b3 b4 b5 b6 b7:Bool):cp Unit:=
 OV (l.getD 4 false) (l.getD 8 false) (l.getD 12 false) (l.getD 16 false) (l.getD 20 false) (l.getD 24 false) (l.getD 29 false) (l.getD 33 false) b0 b1 b2 b3 b4 b5 b6 b7
structure RB (ops:Array am) (nt:Nat) (rO:Array ad) (ds:List eh) (l:Array Bool) (a:bw):Prop where
 BM:l.size=36
 S8:a.tmps.size=nt
 dfs:a.defers=ds
 down:∀i,l.getD i false=true->∀o,ops[i]? =some o->∀e∈o.after,Region.binds .any e=true->l.getD e.on false=true
 wT:∀t,(t<14\/41<t)->a.tmps[t]? =rO[t]?
def RM(P:ag)(TK TE:Nat)(w0:ar)(b0 b1 b2 b3 b4 b5 b6 b7:Bool)(l:Array Bool)(a:bw)(w:ar)(σ:dz)(m n:Nat):Prop:=
 (∀b g,σ b=some g->g.B≠m)/\w0.heap.size<=m/\a.tmps.getD 14 aj=.map (some m)/\n<=(List.range 36).countP (λi=>l.getD i false)/\(l.getD 34 false=true->a.tmps.getD 40 aj=.map (some m))/\
  (l.getD 35 false=false->w.ownsMap P TK (plainElem P TE) m n (Dl l b0 b1 b2 b3 b4 b5 b6 b7))/\
  (l.getD 35 false=true->∃r,a.tmps.getD 41 aj=.pointer (some ⟨r,0,none⟩)/\(∀b g,σ b=some g->g.B≠r)/\w0.heap.size<=r/\
    w.ranges P TK (plainElem P TE) m r n (Dl l b0 b1 b2 b3 b4 b5 b6 b7) (Maps.has (Dl l b0 b1 b2 b3 b4 b5 b6 b7)) (Maps.size (Dl l b0 b1 b2 b3 b4 b5 b6 b7)))
structure RI (P:ag) (ops:Array am) (nt TK TE:Nat) (σ0:dz) (W:AW) (R:ai.Fr) (w0:ar) (rO:Array ad) (ds:List eh) (b0 b1 b2 b3 b4 b5 b6 b7:Bool)
 (l:Array Bool) (a:bw) (w:ar):Prop where
 base:RB ops nt rO ds l a
 awT:∃σ,bI σ W w.heap/\fT σ0 W w0 σ W w/\(∀i o d,ops[i]? =some o->kE i=true->l.getD i false=true->o.dst=some d->VR σ (dy R d) (a.tmps.getD d aj))/\
  (l.getD 0 false=true->∃m n,RM P TK TE w0 b0 b1 b2 b3 b4 b5 b6 b7 l a w σ m n)
structure RF (P:ag) (ops:Array am) (nt TM TK TE:Nat) (σ0:dz) (W:AW) (R:ai.Fr) (rO:Array ad) (b0 b1 b2 b3 b4 b5 b6 b7:Bool):Prop where
 size:ops.size=36
 shape:∀i o,ops[i]? =some o->lT ops TM i o=true
 back:∀i o,ops[i]? =some o->Py i o=true
 awi:∀i o d,ops[i]? =some o->kE i=true->o.dst=some d->∀(σ:dz) (w:ar) (ρ:au->ad),bI σ W w.heap->(∀x∈o.op.operands,VR σ (aF R x) (ρ x))->lO P σ W w (execOp ρ o) (dy R d) W
 v0:dy R 17=.bool b0
 v1:dy R 20=.bool b1
 v2:dy R 23=.bool b2
 v3:dy R 26=.bool b3
 v4:dy R 29=.bool b4
 v5:dy R 32=.bool b5
 v6:dy R 36=.bool b6
 v7:dy R 39=.bool b7
 ptr:VR σ0 (dy R 1) (rO.getD 1 aj)
 nt:42<=nt
 TM:P.underlying TM=some (.map TK TE)
 TK:P.underlying TK=some (.int .i64)
 TE:P.underlying TE=some .bool
def Bb{l:Array Bool}{i:Nat}(hi:i<36)(hs:l.size=36)(h:l.getD i false=false):(List.range 36).countP (λk=>l.getD k false)+1<=(List.range 36).countP (λk=>(l.setIfInBounds i true).getD k false):=by
 refine MI (x:=i) (by simpa using hi) (dM (by omega) false) h λy hy=>?_
 by_cases e:i=y
 ·subst e;exact dM (by omega) false
 ·rw[br e];exact hy
def aad{l:Array Bool}:(List.range 36).countP (λk=>l.getD k false)<=36:=by have:=List.countP_le_length (p:=λk=>l.getD k false) (l:=List.range 36);simpa using this
def qi{l:Array Bool}{i:Nat}(h:l.getD i true=false)(hi:i<l.size):l.getD i false=false:=by simp only[zw]at h|-;rw[jK hi]at h|-;exact h
def FA(hF:RF P ops nt TM TK TE σ0 W R rO b0 b1 b2 b3 b4 b5 b6 b7){i:Nat}{o:am}(ho:ops[i]? =some o):o.guard=none/\(kE i=true->(∃d,o.dst=some d/\14<d/\d<40)/\o.op.operands.toList.all (ab3 ops o)=true)/\
 (∀d,o.dst=some d->14<=d/\d<=41)/\(∀d,o.dst=some d->14<d->d<40->kE i=true):=by
 have hs:=hF.shape i o ho;by_cases hp:kE i=true
 ·have hq:Vt ops o=true:=by unfold lT at hs;unfold kE at hp;split at hs<;>first|exact hs|(simp at hp;done)
  unfold Vt at hq;simp only[bA,EA]at hq;obtain⟨⟨h1,h2⟩,h3⟩:=hq;cases hd:o.dst with
  |none=>rw[hd]at h2;cases h2
  |some d=>rw[hd]at h2;simp only[bA,jG]at h2;refine⟨h1,λ_=>⟨⟨d,rfl,h2⟩,h3⟩,λd' e=>?_,λ_ _ _ _=>hp⟩;injection e with e;subst e;exact⟨Nat.le_of_lt h2.1,Nat.le_of_lt (Nat.lt_trans h2.2 (by decide))⟩
 ·refine⟨?_,λh=>absurd h hp,?_,?_⟩
  ·unfold lT at hs;unfold kE at hp;split at hs<;>simp_all[uH]
  ·intro d hd;unfold lT at hs;unfold kE at hp;split at hs<;>simp_all[uH];all_goals(first|(split at hs<;>simp_all)|skip)
   all_goals omega
  ·intro d hd h1 h2;exfalso;unfold lT at hs;unfold kE at hp;split at hs<;>simp_all[uH];all_goals(first|(split at hs<;>simp_all)|skip)
   all_goals omega
def RB.step(hB:RB ops nt rO ds l a)(hF:RF P ops nt TM TK TE σ0 W R rO b0 b1 b2 b3 b4 b5 b6 b7){i:Nat}{o:am}(ho:ops[i]? =some o)
 (hr:∀e∈o.after,Region.binds .any e=true->l.getD e.on false=true)(v:ad):RB ops nt rO ds (l.setIfInBounds i true) (a.put o.dst v):=by
 obtain⟨_,_,hd,_⟩:=FA hF ho;have hi:i<l.size:=by rw[hB.BM,<-hF.size];exact(eV.1 ho).1
 have Cb:∀k,l.getD k false=true->(l.setIfInBounds i true).getD k false=true:=λk hk=>by
  by_cases e:i=k
  ·subst e;exact dM hi _
  ·rw[br e];exact hk
 refine⟨by simp[hB.BM],by rw[K2];exact hB.S8,by rw[tC];exact hB.dfs,?_,?_⟩
 ·intro k hk o' RV e he hb;by_cases e1:i=k
  ·subst e1;rw[ho]at RV;injection RV with RV;subst RV;exact Cb _ (hr e he hb)
  ·rw[br e1]at hk;exact Cb _ (hB.down k hk o' RV e he hb)
 ·intro t ht;rw[<-hB.wT t ht];cases hq:o.dst with
  |none=>rfl
  |some d=>
   have:=hd d hq;show(a.tmps.setIfInBounds d v)[t]? =a.tmps[t]?;rw[E1];rintro rfl;rcases ht with h|h
   ·exact absurd (ff h this.1) (Nat.lt_irrefl _)
   ·exact absurd (ff h this.2) (Nat.lt_irrefl _)
def WY{σ σ':dz}{W W':AW}{w w':ar}(he:fT σ W w σ' W' w'){m:Nat}(hm:m<w.heap.size)(hn:∀b g,σ b=some g->g.B≠m):(∀b g,σ' b=some g->g.B≠m)/\w'.heap[m]? =w.heap[m]? :=by
 have hnm:¬Mut σ W m:=by rintro⟨b,g,h1,h2,_⟩;exact hn b g h1 h2
 refine⟨λb g hb e=>?_,he.keep m hm hnm⟩;subst e;rcases he.grow b g hb hm with h1|h1
 ·exact hn b g h1 rfl
 ·exact hnm h1
def abg{H:Type}{k:af}{w w':ar}{Re:ad->Option (cp H×List di)}{b n:Nat}{D:cp H}(h:w.ownsMap P k Re b n D)(e:w'.heap[b]? =w.heap[b]?):w'.ownsMap P k Re b n D:=by obtain⟨es,nW,hb,r⟩:=h;exact⟨es,nW,e.trans hb,r⟩
def XV(hF:RF P ops nt TM TK TE σ0 W R rO b0 b1 b2 b3 b4 b5 b6 b7)(hI:RI P ops nt TK TE σ0 W R w0 rO ds b0 b1 b2 b3 b4 b5 b6 b7 l a w){i:Nat}{o:am}(ho:ops[i]? =some o)(hl:l.getD i true=false)
 (hr:∀e∈o.after,Region.binds .any e=true->l.getD e.on false=true)(hp:kE i=true){Q:dx->bw->ar->Prop}{K:bw->ar->Prop}
 (hK:∀a' w',RI P ops nt TK TE σ0 W R w0 rO ds b0 b1 b2 b3 b4 b5 b6 b7 (l.setIfInBounds i true) a' w'->K a' w'):wpOp P ops Q i K a w:=by
 obtain⟨hg,hpd,_,G5⟩:=FA hF ho;obtain⟨⟨d,hd,hd1,hd2⟩,da⟩:=hpd hp;obtain⟨hB,σ,hW,hE,yk,jN⟩:=hI;have hi:i<l.size:=by rw[hB.BM,<-hF.size];exact(eV.1 ho).1
 have PC:=qi hl hi;have hρ:∀x∈o.op.operands,VR σ (aF R x) (a.eval x):=by
  intro x hx;have hx1:=db.1 da x (by simpa using hx);unfold ab3 at hx1;split at hx1
  ·exact jM hx1
  ·rename_i t;rw[oA]at hx1;show VR σ (dy R t) (a.tmps.getD t aj);rcases hx1 with h1|h1
   ·obtain rfl:t=1:=by simpa using h1
    have:a.tmps.getD 1 aj=rO.getD 1 aj:=by simp only[zw];rw[hB.wT 1 (.inl (by decide))]
    rw[this];exact hF.ptr.mono hE.sub
   ·rw[Array.any_eq_true']at h1;obtain⟨e,he,hb⟩:=h1;rw[bA]at hb;obtain⟨CU,lF⟩:=hb;split at lF
    ·rename_i o' RV;split at lF
     ·rename_i d' kg;simp only[bA,fq,jG]at lF;obtain⟨rfl,h3,h4⟩:=lF;exact yk e.on o' d' RV ((FA hF RV).2.2.2 d' kg h3 h4) (hr e he CU) kg
     ·cases lF
    ·cases lF
  ·cases hx1
 obtain⟨σ',nx,v',w',kP,Mh,hv,hW',hE'⟩:=hF.awi i o d ho hp hd σ w a.eval hW hρ;have mu:RI P ops nt TK TE σ0 W R w0 rO ds b0 b1 b2 b3 b4 b5 b6 b7 (l.setIfInBounds i true) (a.put o.dst v') w':=by
  refine⟨hB.step hF ho hr v',σ',hW',hE.trans hE',?_,?_⟩
  ·intro k o' d' RV C0 Cw kg;by_cases e:i=k
   ·subst e;rw[ho]at RV;injection RV with RV;subst RV;rw[hd]at kg;injection kg with kg;subst kg;rw[tP hd (by rw[hB.S8];exact ff hd2 (eS (by decide) hF.nt))];exact hv
   ·rw[br e]at Cw;by_cases e2:d'=d
    ·subst e2;rw[tP hd (by rw[hB.S8];exact ff hd2 (eS (by decide) hF.nt))];exact hv
    ·rw[jD (by rw[hd];intro e3;injection e3 with e3;exact e2 e3.symm)];exact(yk k o' d' RV C0 Cw kg).mono hE'.sub
  ·intro h0;have fp:∀k,kE k=false->(l.setIfInBounds i true).getD k false=l.getD k false:=λk hk=>br (λe=>by subst e;rw[hp]at hk;cases hk) _
   have dT:∀t,(t=14\/39<t)->(a.put o.dst v').tmps.getD t aj=a.tmps.getD t aj:=λt ht=>jD (by
    rw[hd];intro e3;injection e3 with e3;subst e3;rcases ht with h|h
    ·subst h;exact absurd hd1 (by decide)
    ·exact absurd hd2 (by intro h5;exact absurd (ff h5 h) (Nat.lt_irrefl _)));rw[fp 0 rfl]at h0;obtain⟨m,n,k1,k2,k3,k4,k5,k6,k7⟩:=jN h0;have hD:Dl (l.setIfInBounds i true) b0 b1 b2 b3 b4 b5 b6 b7=Dl l b0 b1 b2 b3 b4 b5 b6 b7:=by
    unfold Dl;rw[fp 4 rfl,fp 8 rfl,fp 12 rfl,fp 16 rfl,fp 20 rfl,fp 24 rfl,fp 29 rfl,fp 33 rfl]
   have lA:m<w.heap.size:=by
    cases hq:l.getD 35 false with
    |false=>exact(k6 hq).lt
    |true=>obtain⟨r,_,_,_,RY⟩:=k7 hq;exact RY.owns.lt
   obtain⟨q1,q2⟩:=WY hE' lA k1;refine⟨m,n,q1,k2,by rw[dT 14 (.inl rfl)];exact k3,eS k4 (eS (Nat.le_succ _) (Bb (by rw[<-hB.BM];exact hi) hB.BM PC)),λh=>?_,λh=>?_,λh=>?_⟩
   ·rw[fp 34 rfl]at h;rw[dT 40 (.inr (by decide))];exact k5 h
   ·rw[fp 35 rfl]at h;rw[hD];exact abg (k6 h) q2
   ·rw[fp 35 rfl]at h;obtain⟨r,p1,p2,p3,p4⟩:=k7 h;have awo:r<w.heap.size:=by obtain⟨es,nW,since,seen,c0,_,_,_,_,hr,_⟩:=p4;exact(eV.1 hr).1
    obtain⟨q3,q4⟩:=WY hE' awo p2;refine⟨r,by rw[dT 41 (.inr (by decide))];exact p1,q3,p3,?_⟩;rw[hD];obtain⟨es,nW,since,seen,c0,z1,z2,z3,z4,z5,z6⟩:=p4;exact⟨es,nW,since,seen,c0,q2.trans z1,z2,z3,z4,q4.trans z5,z6⟩
 rcases Mh with rfl|⟨rfl,rfl⟩
 ·exact xl ho hg kP (hK _ _ mu)
 ·exact Nt ho hg kP (hK _ _ mu)
def Wi(hF:RF P ops nt TM TK TE σ0 W R rO b0 b1 b2 b3 b4 b5 b6 b7)(hB:RB ops nt rO ds l a):
 (l.getD 35 false=true->l.getD 34 false=true)/\(l.getD 34 false=true->∀e,e<34->l.getD e false=true)/\(∀i,(i=4\/i=8\/i=12\/i=16\/i=20\/i=24\/i=29\/i=33)->l.getD i false=true->l.getD 0 false=true):=by
 have at_:∀i,i<36->∃o,ops[i]? =some o:=λi hi=>⟨ops[i]'(by rw[hF.size];exact hi),jK _⟩
 refine⟨λh=>?_,λh e he=>?_,λi hi h=>?_⟩
 ·obtain⟨o,ho⟩:=at_ 35 (by decide);have hs:=hF.shape 35 o ho;simp only[lT,bA]at hs;exact iO hs.2 (hB.down 35 h o ho)
 ·obtain⟨o,ho⟩:=at_ 34 (by decide);have hs:=hF.shape 34 o ho;simp only[lT,bA,db]at hs;exact iO (hs.2 e (by simpa using he)) (hB.down 34 h o ho)
 ·obtain⟨o,ho⟩:=at_ i (by omega);have hs:=hF.shape i o ho;have:Ck 0 o=true:=by rcases hi with rfl|rfl|rfl|rfl|rfl|rfl|rfl|rfl<;>(simp only[lT,uH,bA]at hs;exact hs.1.1.1.2)
  exact iO this (hB.down i h o ho)
def xO{σ:dz}(hF:RF P ops nt TM TK TE σ0 W R rO b0 b1 b2 b3 b4 b5 b6 b7){i:Nat}{o:am}(ho:ops[i]? =some o)(hp:kE i=false)
 (h:∀i o d,ops[i]? =some o->kE i=true->l.getD i false=true->o.dst=some d->VR σ (dy R d) (a.tmps.getD d aj))(v:ad):
 ∀k o' d,ops[k]? =some o'->kE k=true->(l.setIfInBounds i true).getD k false=true->o'.dst=some d->VR σ (dy R d) ((a.put o.dst v).tmps.getD d aj):=by
 intro k o' d RV C0 hl hd;have e:i≠k:=λe=>by subst e;rw[hp]at C0;cases C0
 rw[br e]at hl;obtain⟨_,hpd,_,_⟩:=FA hF RV;obtain⟨⟨d',kg,h1,h2⟩,_⟩:=hpd C0;rw[hd]at kg;injection kg with kg;subst kg;rw[jD]
 ·exact h k o' d RV C0 hl hd
 ·intro e2;have:=(FA hF ho).2.2.2 d e2 h1 h2;rw[hp]at this;cases this
def Nz{w:ar}{o:Obj}(ho:∀c t f,o≠ .cells c t f)(x:bg):(w.alloc o).frozen? x=w.frozen? x:=by
 by_cases h:x.block<w.heap.size
 ·exact World.frozen?_of_block ((Ea w o none).block _ h (by simp))
 ·rw[sJ (w:=w) (by omega)];by_cases e:x.block=w.heap.size
  ·unfold World.frozen?;rw[e];have:(w.alloc o).heap[w.heap.size]? =some o:=(MapKept.heap_alloc w o).1;rw[this];cases o<;>first|rfl|exact absurd rfl (ho _ _ _)
  ·refine sJ ?_;have:(w.alloc o).heap.size=w.heap.size+1:=by simp
   omega
def Zc(hF:RF P ops nt TM TK TE σ0 W R rO b0 b1 b2 b3 b4 b5 b6 b7)(hI:RI P ops nt TK TE σ0 W R w0 rO ds b0 b1 b2 b3 b4 b5 b6 b7 l a w){o:am}(ho:ops[0]? =some o)(hl:l.getD 0 true=false)
 (hr:∀e∈o.after,Region.binds .any e=true->l.getD e.on false=true){Q:dx->bw->ar->Prop}{K:bw->ar->Prop}
 (hK:∀a' w',RI P ops nt TK TE σ0 W R w0 rO ds b0 b1 b2 b3 b4 b5 b6 b7 (l.setIfInBounds 0 true) a' w'->K a' w'):wpOp P ops Q 0 K a w:=by
 obtain⟨hB,σ,hW,hE,yk,jN⟩:=hI;have hi:0<l.size:=by rw[hB.BM];decide
 have PC:=qi hl hi;obtain⟨n1,n2,n3⟩:=Wi hF hB;have hs:=hF.shape 0 o ho;simp only[lT,bA,EA]at hs;obtain⟨hg,hs⟩:=hs;split at hs;case h_2=>cases hs
 rename_i t d vd hd;simp only[bA,fq]at hs;obtain⟨rfl,rfl⟩:=hs;have kP:(execOp a.eval o).run P w=.ok (.value (.map (some w.heap.size))) (w.alloc (.map #[] 0)):=by simp[execOp,vd,run_makeMap]
 refine xl ho hg kP (hK _ _ ⟨hB.step hF ho hr _,σ,?_,?_,xO hF ho rfl yk _,λ_=>⟨w.heap.size,0,?_,hE.size,?_,qy _,?_,?_,?_⟩⟩)
 ·exact Fc (m:=w.heap.size) hW (λb g hb=>Nat.ne_of_lt (hW.qL b g hb).2) ((Ea w _ none).but _)
 ·exact EY (m:=w.heap.size) hE hE.size ((Ea w _ none).but _) (Nz (λ_ _ _ h=>by cases h))
 ·exactλb g hb=>Nat.ne_of_lt (hW.qL b g hb).2
 ·exact tP hd (by rw[hB.S8];exact ff (by decide) hF.nt)
 ·intro h;rw[br (by decide)]at h;rw[n2 h 0 (by decide)]at PC;cases PC
 ·intro _;have CX:∀i,(i=4\/i=8\/i=12\/i=16\/i=20\/i=24\/i=29\/i=33)->(l.setIfInBounds 0 true).getD i false=false:=λi hi=>by
   rw[br (by omega)];cases hq:l.getD i false with
   |false=>rfl
   |true=>rw[n3 i hi hq]at PC;cases PC
  have hD:Dl (l.setIfInBounds 0 true) b0 b1 b2 b3 b4 b5 b6 b7=.map []:=by unfold Dl;rw[CX 4 (by simp),CX 8 (by simp),CX 12 (by simp),CX 16 (by simp),CX 20 (by simp),CX 24 (by simp),CX 29 (by simp),CX 33 (by simp)];rfl
  rw[hD];exact World.ownsMap_made _ _ _ _
 ·intro h;rw[br (by decide)]at h;rw[n2 (n1 h) 0 (by decide)]at PC;cases PC
def rk(hF:RF P ops nt TM TK TE σ0 W R rO b0 b1 b2 b3 b4 b5 b6 b7)(hI:RI P ops nt TK TE σ0 W R w0 rO ds b0 b1 b2 b3 b4 b5 b6 b7 l a w){i key s k:Nat}{bj:Bool}{o:am}(ho:ops[i]? =some o)(hl:l.getD i true=false)
 (hr:∀e∈o.after,Region.binds .any e=true->l.getD e.on false=true)(hs:uH ops TM key s k o=true)(hp:kE i=false)(atu:i<34)(hi0:i≠0)(hv:dy R s=.bool bj)(hwf:(Lit.int .i64 key).wf=true)
 (au2:(Dl l b0 b1 b2 b3 b4 b5 b6 b7).put (.ae key) (.lit (.bool bj))=Dl (l.setIfInBounds i true) b0 b1 b2 b3 b4 b5 b6 b7){Q:dx->bw->ar->Prop}{K:bw->ar->Prop}
 (hK:∀a' w',RI P ops nt TK TE σ0 W R w0 rO ds b0 b1 b2 b3 b4 b5 b6 b7 (l.setIfInBounds i true) a' w'->K a' w'):wpOp P ops Q i K a w:=by
 obtain⟨hB,σ,hW,hE,yk,jN⟩:=hI;have hi:i<l.size:=by rw[hB.BM];omega
 have PC:=qi hl hi;obtain⟨n1,n2,n3⟩:=Wi hF hB;unfold uH at hs;simp only[bA,EA]at hs;obtain⟨⟨⟨⟨⟨hg,hd⟩,e0⟩,ek⟩,vd⟩,hk⟩:=hs;split at vd;case h_2=>cases vd
 rename_i t m' n' v' atK;simp only[bA,fq,jG]at vd;obtain⟨⟨⟨⟨⟨rfl,rfl⟩,rfl⟩,rfl⟩,H3⟩,Cd⟩:=vd;split at hk;case h_2=>cases hk
 rename_i ok mQ;split at hk;case h_2=>cases hk
 rename_i dk hdk;obtain rfl:dk=v':=by simpa using hk
 have L7:a.tmps.getD dk aj=.bool bj:=by have:=yk k ok dk mQ ((FA hF mQ).2.2.2 dk hdk H3 Cd) (iO ek hr) hdk;rw[hv]at this;exact this.jY
 obtain⟨m,n,k1,k2,k3,k4,k5,k6,k7⟩:=jN (iO e0 hr);have h34:l.getD 34 false=false:=by
  cases hq:l.getD 34 false with
  |false=>rfl
  |true=>rw[n2 hq i atu]at PC;cases PC
 have PU:l.getD 35 false=false:=by
  cases hq:l.getD 35 false with
  |false=>rfl
  |true=>rw[n1 hq]at h34;cases h34
 have QD:keyOf P TK (.ae (n':Int))=some (.ae (n':Int)):=by simp[keyOf,mapKey,hF.TK,hwf]
 obtain⟨w',kP,ai1,XQ,vZ⟩:=T7 (k6 PU) (Go.Maps.int_keyed hF.TK) hF.TM (Nat.lt_of_le_of_lt (eS k4 aad) (by decide)) QD (plainElem_bool hF.TE bj);have abK:(execOp a.eval o).run P w=.ok .skip w':=by have e1:a.eval (.tmp 14)=.map (some m):=k3;have e2:a.eval (.tmp dk)=.bool bj:=L7;have e3:a.eval (.const (.ae (Int.ofNat n')))=.ae (n':Int):=rfl;simp only[execOp,atK,e1,e2,e3];simp[kP]
 refine Nt ho hg abK (hK _ _ ⟨hB.step hF ho hr _,σ,?_,?_,xO hF ho hp yk _,λ_=>⟨m,n+1,k1,k2,?_,?_,?_,?_,?_⟩⟩)
 ·exact Fc hW k1 XQ
 ·refine EY hE k2 XQ λx=>?_
  by_cases e:x.block=m
  ·rw[Qo (k6 PU) e,Qo ai1 e]
  ·by_cases h:x.block<w.heap.size
   ·exact World.frozen?_of_block (XQ.block _ h (λe2=>by injection e2 with e2;exact e e2))
   ·rw[sJ (w:=w) (by omega),sJ (w:=w') (by omega)]
 ·rw[hd];exact k3
 ·exact eS (Nat.succ_le_succ k4) (Bb (by rw[<-hB.BM];exact hi) hB.BM PC)
 ·intro h;rw[br (by omega),h34]at h;cases h
 ·intro _;rw[<-au2];exact ai1
 ·intro h;rw[br (by omega),PU]at h;cases h
def Zw(hF:RF P ops nt TM TK TE σ0 W R rO b0 b1 b2 b3 b4 b5 b6 b7)(hI:RI P ops nt TK TE σ0 W R w0 rO ds b0 b1 b2 b3 b4 b5 b6 b7 l a w){o:am}(ho:ops[34]? =some o)(hl:l.getD 34 true=false)
 (hr:∀e∈o.after,Region.binds .any e=true->l.getD e.on false=true){Q:dx->bw->ar->Prop}{K:bw->ar->Prop}
 (hK:∀a' w',RI P ops nt TK TE σ0 W R w0 rO ds b0 b1 b2 b3 b4 b5 b6 b7 (l.setIfInBounds 34 true) a' w'->K a' w'):wpOp P ops Q 34 K a w:=by
 obtain⟨hB,σ,hW,hE,yk,jN⟩:=hI;have hi:34<l.size:=by rw[hB.BM];decide
 have PC:=qi hl hi;obtain⟨n1,n2,n3⟩:=Wi hF hB;have hs:=hF.shape 34 o ho;simp only[lT,bA,EA,db]at hs;obtain⟨⟨hg,hs⟩,hed⟩:=hs;split at hs;case h_2=>cases hs
 rename_i x d vd hd;simp only[bA,fq]at hs;obtain⟨rfl,rfl⟩:=hs;have h0:l.getD 0 false=true:=iO (hed 0 (by simp)) hr;obtain⟨m,n,k1,k2,k3,k4,k5,k6,k7⟩:=jN h0;have PU:l.getD 35 false=false:=by
  cases hq:l.getD 35 false with
  |false=>rfl
  |true=>rw[n1 hq]at PC;cases PC
 have kP:(execOp a.eval o).run P w=.ok (.value (.map (some m))) w:=by have e1:a.eval (.tmp 14)=.map (some m):=k3;simp only[execOp,vd,e1];rfl
 have hD:Dl (l.setIfInBounds 34 true) b0 b1 b2 b3 b4 b5 b6 b7=Dl l b0 b1 b2 b3 b4 b5 b6 b7:=by unfold Dl;rw[br (by decide),br (by decide),br (by decide),br (by decide),br (by decide),br (by decide),br (by decide),br (by decide)]
 refine xl ho hg kP (hK _ _ ⟨hB.step hF ho hr _,σ,hW,hE,xO hF ho rfl yk _,λ_=>⟨m,n,k1,k2,?_,?_,?_,?_,?_⟩⟩)
 ·rw[jD (by rw[hd];intro e;injection e with e;cases e)];exact k3
 ·exact eS k4 (eS (Nat.le_succ _) (Bb (by decide) hB.BM PC))
 ·intro _;exact tP hd (by rw[hB.S8];exact ff (by decide) hF.nt)
 ·intro _;rw[hD];exact k6 PU
 ·intro h;rw[br (by decide),PU]at h;cases h
def Vm(hF:RF P ops nt TM TK TE σ0 W R rO b0 b1 b2 b3 b4 b5 b6 b7)(hI:RI P ops nt TK TE σ0 W R w0 rO ds b0 b1 b2 b3 b4 b5 b6 b7 l a w){o:am}(ho:ops[35]? =some o)(hl:l.getD 35 true=false)
 (hr:∀e∈o.after,Region.binds .any e=true->l.getD e.on false=true){Q:dx->bw->ar->Prop}{K:bw->ar->Prop}
 (hK:∀a' w',RI P ops nt TK TE σ0 W R w0 rO ds b0 b1 b2 b3 b4 b5 b6 b7 (l.setIfInBounds 35 true) a' w'->K a' w'):wpOp P ops Q 35 K a w:=by
 obtain⟨hB,σ,hW,hE,yk,jN⟩:=hI;have hi:35<l.size:=by rw[hB.BM];decide
 have PC:=qi hl hi;obtain⟨n1,n2,n3⟩:=Wi hF hB;have hs:=hF.shape 35 o ho;simp only[lT,bA,EA]at hs;obtain⟨⟨hg,hs⟩,hed⟩:=hs;split at hs;case h_2=>cases hs
 rename_i t x d vd hd;simp only[bA,fq]at hs;obtain⟨⟨rfl,rfl⟩,rfl⟩:=hs;have h34:l.getD 34 false=true:=iO hed hr;obtain⟨m,n,k1,k2,k3,k4,k5,k6,k7⟩:=jN (n2 h34 0 (by decide));obtain⟨w',kP,RY,XQ,vZ⟩:=(k6 PC).range (Go.Maps.int_keyed hF.TK) hF.TM;have abK:(execOp a.eval o).run P w=.ok (.value (.pointer (some ⟨w.heap.size,0,none⟩))) w':=by have e1:a.eval (.tmp 40)=.map (some m):=k5 h34;simp only[execOp,vd,e1];simp[kP]
 have aq6:∀x:bg,x.block=w.heap.size->w'.frozen? x=false:=λx e=>by obtain⟨es,nW,since,seen,c0,_,_,_,_,hr,_⟩:=RY;unfold World.frozen?;rw[e,hr]
 have hD:Dl (l.setIfInBounds 35 true) b0 b1 b2 b3 b4 b5 b6 b7=Dl l b0 b1 b2 b3 b4 b5 b6 b7:=by unfold Dl;rw[br (by decide),br (by decide),br (by decide),br (by decide),br (by decide),br (by decide),br (by decide),br (by decide)]
 refine xl ho hg abK (hK _ _ ⟨hB.step hF ho hr _,σ,?_,?_,xO hF ho rfl yk _,λ_=>⟨m,n,k1,k2,?_,?_,?_,?_,?_⟩⟩)
 ·exact Fc (m:=w.heap.size) hW (λb g hb=>Nat.ne_of_lt (hW.qL b g hb).2) (XQ.but _)
 ·refine EY (m:=w.heap.size) hE hE.size (XQ.but _) λx=>?_
  by_cases h:x.block<w.heap.size
  ·exact World.frozen?_of_block (XQ.block _ h (by simp))
  ·rw[sJ (w:=w) (by omega)];by_cases e:x.block=w.heap.size
   ·exact aq6 x e
   ·exact sJ (by omega)
 ·rw[jD (by rw[hd];intro e;injection e with e;cases e)];exact k3
 ·exact eS k4 (eS (Nat.le_succ _) (Bb (by decide) hB.BM PC))
 ·intro _;rw[jD (by rw[hd];intro e;injection e with e;cases e)];exact k5 h34
 ·intro h;rw[dM hi]at h;cases h
 ·intro _;refine⟨w.heap.size,tP hd (by rw[hB.S8];exact ff (by decide) hF.nt),λb g hb=>Nat.ne_of_lt (hW.qL b g hb).2,hE.size,?_⟩;rw[hD];exact RY
def Y0(hF:RF P ops nt TM TK TE σ0 W R rO b0 b1 b2 b3 b4 b5 b6 b7)(hB:RB ops nt rO ds l a)(h:Region.ready .any ops l=[]):∀i,i<36->l.getD i false=true:=by
 have key:∀n i,i<n->i<36->l.getD i false=true:=by
  intro n;induction n with
  |zero=>intro i h;exact absurd h (Nat.not_lt_zero _)
  |succ n ih=>
   intro i hi N1;by_cases lA:i<n
   ·exact ih i lA N1
   ·have nP:i<ops.size:=by rw[hF.size];exact N1
    have ho:ops[i]? =some ops[i]:=jK nP;cases hq:l.getD i false with
    |true=>rfl
    |false=>
     exfalso;have hb:=hF.back i _ ho;unfold Py at hb;have hil:i<l.size:=by rw[hB.BM];exact N1
     have:i∈Region.ready .any ops l:=sm.2 ⟨by
      simp only[zw]at hq|-;rw[jK hil]at hq|-;exact hq,_,ho,λe he hbd=>by
      rw[Array.all_eq_true']at hb;have h1:=hb e he;rw[jG]at h1;exact ih e.on (by omega) (by omega)⟩;rw[h]at this;cases this
 exactλi hi=>key (i+1) i (Nat.lt_succ_self i) hi
def abr(hF:RF P ops nt TM TK TE σ0 W R rO b0 b1 b2 b3 b4 b5 b6 b7)(hI:RI P ops nt TK TE σ0 W R w0 rO ds b0 b1 b2 b3 b4 b5 b6 b7 l a w){i:Nat}(hi:i∈Region.ready .any ops l){Q:dx->bw->ar->Prop}{K:bw->ar->Prop}
 (hK:∀a' w',RI P ops nt TK TE σ0 W R w0 rO ds b0 b1 b2 b3 b4 b5 b6 b7 (l.setIfInBounds i true) a' w'->K a' w'):wpOp P ops Q i K a w:=by
 obtain⟨hl,o,ho,hr⟩:=sm.1 hi;have vZ:l.size=36:=hI.base.BM;cases hp:kE i with
 |true=>exact XV hF hI ho hl hr hp hK
 |false=>
  have hs:=hF.shape i o ho;have hc:i=0\/i=4\/i=8\/i=12\/i=16\/i=20\/i=24\/i=29\/i=33\/i=34\/i=35:=by unfold kE at hp;split at hp<;>first|simp|cases hp
  rcases hc with rfl|rfl|rfl|rfl|rfl|rfl|rfl|rfl|rfl|rfl|rfl
  ·exact Zc hF hI ho hl hr hK
  ·exact rk hF hI ho hl hr hs rfl (by decide) (by decide) hF.v0 rfl (by unfold Dl;rw[dM (by omega),br (show(4:Nat)≠8 by decide),br (show(4:Nat)≠12 by decide),br (show(4:Nat)≠16 by decide),br (show(4:Nat)≠20 by decide),br (show(4:Nat)≠24 by decide),br (show(4:Nat)≠29 by decide),br (show(4:Nat)≠33 by decide)];exact av0 ..) hK
  ·exact rk hF hI ho hl hr hs rfl (by decide) (by decide) hF.v1 rfl (by unfold Dl;rw[dM (by omega),br (show(8:Nat)≠4 by decide),br (show(8:Nat)≠12 by decide),br (show(8:Nat)≠16 by decide),br (show(8:Nat)≠20 by decide),br (show(8:Nat)≠24 by decide),br (show(8:Nat)≠29 by decide),br (show(8:Nat)≠33 by decide)];exact auP ..) hK
  ·exact rk hF hI ho hl hr hs rfl (by decide) (by decide) hF.v2 rfl (by unfold Dl;rw[dM (by omega),br (show(12:Nat)≠4 by decide),br (show(12:Nat)≠8 by decide),br (show(12:Nat)≠16 by decide),br (show(12:Nat)≠20 by decide),br (show(12:Nat)≠24 by decide),br (show(12:Nat)≠29 by decide),br (show(12:Nat)≠33 by decide)];exact avv ..) hK
  ·exact rk hF hI ho hl hr hs rfl (by decide) (by decide) hF.v3 rfl (by unfold Dl;rw[dM (by omega),br (show(16:Nat)≠4 by decide),br (show(16:Nat)≠8 by decide),br (show(16:Nat)≠12 by decide),br (show(16:Nat)≠20 by decide),br (show(16:Nat)≠24 by decide),br (show(16:Nat)≠29 by decide),br (show(16:Nat)≠33 by decide)];exact avr ..) hK
  ·exact rk hF hI ho hl hr hs rfl (by decide) (by decide) hF.v4 rfl (by unfold Dl;rw[dM (by omega),br (show(20:Nat)≠4 by decide),br (show(20:Nat)≠8 by decide),br (show(20:Nat)≠12 by decide),br (show(20:Nat)≠16 by decide),br (show(20:Nat)≠24 by decide),br (show(20:Nat)≠29 by decide),br (show(20:Nat)≠33 by decide)];exact awf ..) hK
  ·exact rk hF hI ho hl hr hs rfl (by decide) (by decide) hF.v5 rfl (by unfold Dl;rw[dM (by omega),br (show(24:Nat)≠4 by decide),br (show(24:Nat)≠8 by decide),br (show(24:Nat)≠12 by decide),br (show(24:Nat)≠16 by decide),br (show(24:Nat)≠20 by decide),br (show(24:Nat)≠29 by decide),br (show(24:Nat)≠33 by decide)];exact aum ..) hK
  ·exact rk hF hI ho hl hr hs rfl (by decide) (by decide) hF.v6 rfl (by unfold Dl;rw[dM (by omega),br (show(29:Nat)≠4 by decide),br (show(29:Nat)≠8 by decide),br (show(29:Nat)≠12 by decide),br (show(29:Nat)≠16 by decide),br (show(29:Nat)≠20 by decide),br (show(29:Nat)≠24 by decide),br (show(29:Nat)≠33 by decide)];exact awI ..) hK
  ·exact rk hF hI ho hl hr hs rfl (by decide) (by decide) hF.v7 rfl (by unfold Dl;rw[dM (by omega),br (show(33:Nat)≠4 by decide),br (show(33:Nat)≠8 by decide),br (show(33:Nat)≠12 by decide),br (show(33:Nat)≠16 by decide),br (show(33:Nat)≠20 by decide),br (show(33:Nat)≠24 by decide),br (show(33:Nat)≠29 by decide)];exact auU ..) hK
  ·exact Zw hF hI ho hl hr hK
  ·exact Vm hF hI ho hl hr hK
def Kv(b0 b1 b2 b3 b4 b5 b6 b7:Bool):cp Unit:=OV true true true true true true true true b0 b1 b2 b3 b4 b5 b6 b7
structure RQ (P:ag) (nt TK TE:Nat) (σ0:dz) (W:AW) (w0:ar) (rO:Array ad) (ds:List eh) (b0 b1 b2 b3 b4 b5 b6 b7:Bool) (a:bw) (w:ar) (σ:dz) (m r n:Nat):Prop where
 S8:a.tmps.size=nt
 dfs:a.defers=ds
 wT:∀t,(t<14\/41<t)->a.tmps[t]? =rO[t]?
 it:a.tmps.getD 41 aj=.pointer (some ⟨r,0,none⟩)
 rel:bI σ W w.heap
 ext:fT σ0 W w0 σ W w
 nm:∀b g,σ b=some g->g.B≠m
 nr:∀b g,σ b=some g->g.B≠r
 gm:w0.heap.size<=m
 gr:w0.heap.size<=r
 rg:w.ranges P TK (plainElem P TE) m r n (Kv b0 b1 b2 b3 b4 b5 b6 b7) (Maps.has (Kv b0 b1 b2 b3 b4 b5 b6 b7)) (Maps.size (Kv b0 b1 b2 b3 b4 b5 b6 b7))
def RI.done(hF:RF P ops nt TM TK TE σ0 W R rO b0 b1 b2 b3 b4 b5 b6 b7)(hI:RI P ops nt TK TE σ0 W R w0 rO ds b0 b1 b2 b3 b4 b5 b6 b7 l a w)(h:∀i,i<36->l.getD i false=true):
 ∃σ m r n,RQ P nt TK TE σ0 W w0 rO ds b0 b1 b2 b3 b4 b5 b6 b7 a w σ m r n:=by
 obtain⟨hB,σ,hW,hE,yk,jN⟩:=hI;obtain⟨m,n,k1,k2,k3,k4,k5,k6,k7⟩:=jN (h 0 (by decide));obtain⟨r,p1,p2,p3,p4⟩:=k7 (h 35 (by decide));have hD:Dl l b0 b1 b2 b3 b4 b5 b6 b7=Kv b0 b1 b2 b3 b4 b5 b6 b7:=by unfold Dl Kv;rw[h 4 (by decide),h 8 (by decide),h 12 (by decide),h 16 (by decide),h 20 (by decide),h 24 (by decide),h 29 (by decide),h 33 (by decide)]
 rw[hD]at p4;exact⟨σ,m,r,n,hB.S8,hB.dfs,hB.wT,p1,hW,hE,k1,p2,k2,p3,p4⟩
def Tk(hF:RF P ops nt TM TK TE σ0 W R rO b0 b1 b2 b3 b4 b5 b6 b7){Q:dx->bw->ar->Prop}(hQ:∀a' w' σ m r n,RQ P nt TK TE σ0 W w0 rO ds b0 b1 b2 b3 b4 b5 b6 b7 a' w' σ m r n->Q .normal a' w'):
 ∀(Ex:Nat) (l:Array Bool) (a:bw) (w:ar),RI P ops nt TK TE σ0 W R w0 rO ds b0 b1 b2 b3 b4 b5 b6 b7 l a w->unl 36 l<=Ex->wpAny P .any ops Q Ex l a w:=by
 intro Ex;induction Ex with
 |zero=>
  intro l a w hI hu;have yC:∀i,i<36->l.getD i false=true:=λi hi=>by
   have h1:=QP (n:=36) (l:=l) (by omega) hi;have hil:i<l.size:=by rw[hI.base.BM];exact hi
   simp only[zw]at h1|-;rw[jK hil]at h1|-;exact h1
  refine⟨?_,?_⟩
  ·rw[List.eq_nil_iff_forall_not_mem];intro i hi;obtain⟨h1,o,ho,_⟩:=sm.1 hi;have N1:i<36:=by rw[<-hF.size];exact(eV.1 ho).1
   have:=yC i N1;rw[qi h1 (by rw[hI.base.BM];exact N1)]at this;cases this
  ·obtain⟨σ,m,r,n,h⟩:=hI.done hF yC;exact hQ _ _ _ _ _ _ h
 |succ Ex ih=>
  intro l a w hI hu;refine⟨λhr=>?_,λi hi=>?_⟩
  ·obtain⟨σ,m,r,n,h⟩:=hI.done hF (Y0 hF hI.base hr);exact hQ _ _ _ _ _ _ h
  ·refine abr hF hI hi λa' w' PD=>ih _ a' w' PD ?_
   obtain⟨h1,o,ho,_⟩:=sm.1 hi;have N1:i<36:=by rw[<-hF.size];exact(eV.1 ho).1
   have:=Iv (l:=l) N1 (by rw[hI.base.BM];exact N1) h1;omega
def TJ(hm:P.follows .mixedOrders=true){id:Nat}(hF:RF P ops nt TM TK TE σ0 W R a.tmps b0 b1 b2 b3 b4 b5 b6 b7)(hnt:a.tmps.size=nt)(hW:bI σ0 W w.heap){Q:dx->bw->ar->Prop}
 (hQ:∀a' w' σ m r n,RQ P nt TK TE σ0 W w a.tmps a.defers b0 b1 b2 b3 b4 b5 b6 b7 a' w' σ m r n->Q .normal a' w'):(Code.region id ops true).wp P Q a w:=by
 refine wp_region_any hm ?_;have CX:∀i,(Array.replicate ops.size false).getD i false=false:=λi=>by simp only[zw,Array.getElem?_replicate];split<;>rfl
 refine Tk (w0:=w) (rO:=a.tmps) (ds:=a.defers) hF hQ _ _ _ _ ⟨⟨by simp[hF.size],hnt,rfl,?_,λ_ _=>rfl⟩,σ0,hW,.drawn _ _ _ _,?_,?_⟩ ?_
 ·intro i hi;rw[CX]at hi;cases hi
 ·intro i o d _ _ hl;rw[CX]at hl;cases hl
 ·intro hl;rw[CX]at hl;cases hl
 ·unfold unl;have:=List.countP_le_length (p:=λi=> !(Array.replicate ops.size false).getD i true) (l:=List.range 36);rw[hF.size]at this|-;simpa using this
end
end
end Go.Eng
namespace Go.Eng
open Go Go.RowKit
section
variable [ai]
structure eE (w w':ar):Prop where
 os:w'.os=w.os
 tape:w'.tape=w.tape
 output:w'.output=w.output
 size:w.heap.size<=w'.heap.size
 block:∀B,B<w.heap.size->w'.heap[B]? =w.heap[B]?
def eE.grown{w w':ar}(h:eE w w'):Vs w w':=by
 refine⟨⟨h.os,h.output,λi hi=>?_⟩,λa ha=>QS (h.block _ ha),h.size⟩;rw[h.block i hi];cases w.heap[i]? with
 |none=>rfl
 |some o=>cases o<;>first|rfl|exact⟨rfl,rfl,rfl,λ_ _=>rfl⟩|exact .inr ⟨rfl,rfl⟩
def eE.cell{w w':ar}(h:eE w w'){a:bg}{v:ad}(hc:w.cell? a=some v):w'.cell? a=some v:=by
 have lA:a.block<w.heap.size:=by
  rcases qG a.block w.heap.size with h'|h'
  ·exact h'
  ·unfold World.cell? at hc;rw[An h']at hc;simp at hc
 rw[World.cell?_of_block (h.block _ lA)];exact hc
def eE.rel{w w':ar}(h:eE w w'){σ:dz}{W:AW}(hW:bI σ W w.heap):bI σ W w'.heap where
 free:=hW.free
 qL b g hb:=⟨(hW.qL b g hb).1,ff (hW.qL b g hb).2 h.size⟩
 obj b o g hb hσ:=(hW.obj b o g hb hσ).same (h.block _ (hW.qL b g hσ).2)
 vF:=hW.vF
def eE.ext{w w':ar}(h:eE w w')(σ:dz)(W:AW):fT σ W w σ W w':=
 ⟨.refl _,λ_ _ h=>h,h.size,h.os,h.tape,h.output,λB hB _=>h.block B hB,λ_ _ a b=>⟨a,b⟩,λ_ _ a _=>.inl a⟩
def eE.other{w w' w'':ar}(h:eE w w'){r:Nat}(hr:w.heap.size<=r)(hg:w'.grownBy w'' (some r))(vZ:w''.heap.size=w'.heap.size)
 (h1:∀a:bg,a.block=r->w'.frozen? a=false)(h2:∀a:bg,a.block=r->w''.frozen? a=false):eE w w'':=by
 refine⟨hg.os.trans h.os,hg.tape.trans h.tape,hg.output.trans h.output,eS h.size hg.size,λB hB=>(hg.block B (ff hB h.size) (λe=>by injection e with e;omega)).trans (h.block B hB)⟩
def Qj{H:Type}{P:ag}{k:af}{w:ar}{Re:ad->Option (cp H×List di)}{b r n vY:Nat}{D:cp H}{left:Lit->Bool}(h:w.ranges P k Re b r n D left vY){a:bg}(ha:a.block=r):w.frozen? a=false:=by obtain⟨es,nW,since,seen,c0,_,_,_,_,hr,_⟩:=h;unfold World.frozen?;rw[ha,hr]
def JK(B n:Nat):dz:=λb=>if b=0 then some ⟨B,0,n⟩else none
def Dh(cs:List ad):AW:=⟨T.set (some (.cells cs)) (path 0) .lf,1⟩
def awu:ai.Fr:=Qm ai.blank 1 (.pointer (some ⟨0,0,none⟩))
def MB{cs:List ad}{b:Nat}(e:b≠0):(Dh cs).get b=none:=by show T.get (path b) (T.set (some (dI.cells cs)) (path 0) .lf)=_;exact(T.iL _ _ _ _ (AE (bc e))).trans (T.Fp _)
def KX(cs:List ad){b:Nat}{o:dI}(h:(Dh cs).get b=some o):b=0/\o=.cells cs:=by
 by_cases e:b=0
 ·subst e;have:(Dh cs).get 0=some (.cells cs):=by show T.get (path 0) (T.set (some (dI.cells cs)) (path 0) .lf)=_;exact T.oX _ _ _
  rw[this]at h;injection h with h;exact⟨rfl,h.symm⟩
 ·have:(Dh cs).get b=none:=MB e;rw[this]at h;cases h
def afz(w:ar)(t:af)(cs:List ad)(hp:cs.all bL=true):bI (JK w.heap.size cs.length) (Dh cs) (w.alloc (.cells cs.toArray t)).heap where
 free b hb:=MB (by have h1:1<=b:=hb;intro e;subst e;exact absurd h1 (by decide))
 qL b g hb:=by
  unfold JK at hb;split at hb
  ·rename_i e;subst e;injection hb with hb;subst hb;exact⟨Nat.lt_succ_self 0,by simp⟩
  ·cases hb
 obj b o g hb hg:=by obtain⟨rfl,rfl⟩:=KX cs hb;injection hg with hg;subst hg;refine⟨cs.toArray,t,(0,0),(MapKept.heap_alloc w _).1,λ_=>rfl,by simp,by simp,λi v hv=>⟨v,by simpa using hv,?_⟩⟩;exact jM (db.1 hp v (xV hv))
 vF b1 b2 o1 o2 g1 g2 fp h1 h2 _ _ _:=absurd ((KX cs h1).1.trans (KX cs h2).1.symm) fp
def ZE{w w2:ar}{t:af}{cs:List ad}{n:Nat}{σ:dz}(h:fT (JK w.heap.size n) (Dh cs) (w.alloc (.cells cs.toArray t)) σ (Dh cs) w2):eE w w2:=by
 have vZ:(w.alloc (.cells cs.toArray t)).heap.size=w.heap.size+1:=by simp
 refine⟨h.os,h.tape,h.output,by have:=h.size;omega,λB hB=>?_⟩
 ·rw[h.keep B (by omega) ?_]
  ·exact(Ea w _ none).block B hB (by simp)
  ·rintro⟨b,g,hb,hg,_⟩;unfold JK at hb;split at hb
   ·injection hb with hb;subst hb;simp only at hg;omega
   ·cases hb
def agR:List Nat:=(List.range 36).filter kE
def VK(P:ag)(ops:Array am)(W:AW):List Nat->ai.Fr->ai.Fr
 |[],R=>R
 |i::l,R=>match ops[i]? with
  |some o=>(match LH P o R W with
   |some (v,_)=>VK P ops W l (iU R o.dst v)
   |none=>R)
  |none=>R
def abw{ops:Array am}{TM:Nat}(h:Og ops TM=true):ops.size=36/\∀i o,ops[i]? =some o->lT ops TM i o=true/\Py i o=true:=by unfold Og at h;rw[bA,fq,db]at h;refine⟨h.1,λi o ho=>?_⟩;have:=h.2 i (by have:=(eV.1 ho).1;simp;omega);rw[ho]at this;simpa using this
section
variable {P:ag}
def rY{d:Nat}{xs ys:Array ad}{f:wi}{fs:List wi}{k:be}{a b:Int}{r:Bool}{w:ar}(hn:f.name≠ "_")(hk:P.plainKey f.type=true)(hu:P.underlying f.type=some (.int k))
 (hx:xs[f.offset]? =some (.int k a))(hy:ys[f.offset]? =some (.int k b))(hr:(Op.eqFields (d+1) xs ys fs).run P w=.ok r w):(Op.eqFields (d+1) xs ys (f::fs)).run P w=.ok ((a==b)&&r) w:=by
 unfold Op.eqFields;rw[an hn,cS,run_part_plain w hk hx,cN,cS,run_part_plain w hk hy,cN,cS,run_equalIn_int _ _ _ _ _ _ _ hu,cN];cases a==b
 ·simp
 ·simpa using hr
def aas{t:af}{x y:au}{f0 f1 f2 f3:wi}{k0 k1 k2 k3:be}{a b c d:Int}(hs:P.underlying t=some (.struct (P.fieldsOf t)))(hp:P.stoodInHeld t=false)(hm:P.eqGuardType P.depth t=false)
 (hf:(P.fieldsOf t).toList=[f0,f1,f2,f3])(n0:f0.name≠ "_")(n1:f1.name≠ "_")(n2:f2.name≠ "_")(n3:f3.name≠ "_")(p0:P.plainKey f0.type=true)(p1:P.plainKey f1.type=true)(p2:P.plainKey f2.type=true)(p3:P.plainKey f3.type=true)
 (u0:P.underlying f0.type=some (.int k0))(u1:P.underlying f1.type=some (.int k1))(u2:P.underlying f2.type=some (.int k2))(u3:P.underlying f3.type=some (.int k3))(o0:f0.offset=0)(o1:f1.offset=1)(o2:f2.offset=2)(o3:f3.offset=3)(w:ar):
 (do eqGuard .neq t x y (.agg #[.int k0 a,.int k1 b,.int k2 c,.int k3 d]) (.agg #[.int k0 0,.int k1 0,.int k2 0,.int k3 0]);binOp .neq t (.agg #[.int k0 a,.int k1 b,.int k2 c,.int k3 d]) (.agg #[.int k0 0,.int k1 0,.int k2 0,.int k3 0]):Sem ad).run P w=
  .ok (.bool (!((a==0)&&((b==0)&&((c==0)&&((d==0)&&true)))))) w:=by
 have h9:∀xs ys:Array ad,(Op.equalIn 10000 t (.agg xs) (.agg ys)).run P w=(Op.eqFields 9999 xs ys (P.fieldsOf t).toList).run P w:=λxs ys=>run_equalIn_struct w 9999 t xs ys hs hp
 have h3:=rY (P:=P) (d:=9998) (xs:=#[.int k0 a,.int k1 b,.int k2 c,.int k3 d]) (ys:=#[.int k0 0,.int k1 0,.int k2 0,.int k3 0]) (fs:=[]) (r:=true) (w:=w) n3 p3 u3 (by rw[o3];rfl) (by rw[o3];rfl) (by simp[Op.eqFields]);have h2:=rY n2 p2 u2 (by rw[o2];rfl) (by rw[o2];rfl) h3;have h1:=rY n1 p1 u1 (by rw[o1];rfl) (by rw[o1];rfl) h2;have h0:=rY n0 p0 u0 (by rw[o0];rfl) (by rw[o0];rfl) h1;have h0':(Op.eqFields 9999 #[.int k0 a,.int k1 b,.int k2 c,.int k3 d] #[.int k0 0,.int k1 0,.int k2 0,.int k3 0] [f0,f1,f2,f3]).run P w=_:=h0;rw[cS,run_eqGuard_agg _ _ _ _ _ _ _ hm,cN,run_neq_struct,h9,hf,h0',cN]
end
def Ws:List Nat:=agR.filter λi=> !Nat.beq i 28
def S9(P:ag)(ops:Array am)(cs:List ad)(b6:Bool):ai.Fr:=Qm (VK P ops (Dh cs) Ws awu) 36 (.bool b6)
def ap4(TT:Nat)(o:am):Bool:=match o.op,o.dst with|.binOp .neq t (.tmp x) (.tmp y) _,some d=>Nat.beq t TT&&Nat.beq x 34&&Nat.beq y 35&&Nat.beq d 36|_,_=>false
def P9{P:ag}(hm:P.follows .mixedOrders=true){id nt TM TK TE TT B:Nat}{ops:Array am}{cs:List ad}{a:bw}{w:ar}{b0 b1 b2 b3 b4 b5 b6 b7:Bool}{Q:dx->bw->ar->Prop}{tk zk:Array ad}
 (h1:Og ops TM=true)
 (h2:(Ws.map λi=>(ops[i]?).bind λo=>LH P o (S9 P ops cs b6) (Dh cs))=Ws.map λi=>(ops[i]?).bind λo=>o.dst.map λd=>(dy (S9 P ops cs b6) d,Dh cs))
 (v0:dy (S9 P ops cs b6) 17=.bool b0)(v1:dy (S9 P ops cs b6) 20=.bool b1)(v2:dy (S9 P ops cs b6) 23=.bool b2)(v3:dy (S9 P ops cs b6) 26=.bool b3)
 (v4:dy (S9 P ops cs b6) 29=.bool b4)(v5:dy (S9 P ops cs b6) 32=.bool b5)(v7:dy (S9 P ops cs b6) 39=.bool b7)
 (c1:dy (S9 P ops cs b6) 34=.agg tk)(c2:dy (S9 P ops cs b6) 35=.agg zk)(c3:bL (.agg tk)=true)(c4:bL (.agg zk)=true)(c5:(ops[28]?).any (ap4 TT)=true)
 (c6:∀w,(do eqGuard .neq TT (.tmp 34) (.tmp 35) (.agg tk) (.agg zk);binOp .neq TT (.agg tk) (.agg zk):Sem ad).run P w=.ok (.bool b6) w)
 (h3:dy (S9 P ops cs b6) 1=.pointer (some ⟨0,0,none⟩))(h4:a.tmps.getD 1 aj=.pointer (some ⟨B,0,none⟩))(h5:42<=nt)(h6:a.tmps.size=nt)
 (tM:P.underlying TM=some (.map TK TE))(tK:P.underlying TK=some (.int .i64))(tE:P.underlying TE=some .bool){n:Nat}(hW:bI (JK B n) (Dh cs) w.heap)
 (hQ:∀a' w' σ m r k,RQ P nt TK TE (JK B n) (Dh cs) w a.tmps a.defers b0 b1 b2 b3 b4 b5 b6 b7 a' w' σ m r k->Q .normal a' w'):(Code.region id ops true).wp P Q a w:=by
 obtain⟨vZ,hsh⟩:=abw h1;have v6:dy (S9 P ops cs b6) 36=.bool b6:=Be _ _ _;refine TJ (nt:=nt) (TM:=TM) (TK:=TK) (TE:=TE) (R:=S9 P ops cs b6) hm ⟨vZ,λi o ho=>(hsh i o ho).1,λi o ho=>(hsh i o ho).2,?_,v0,v1,v2,v3,v4,v5,v6,v7,?_,h5,tM,tK,tE⟩ h6 hW hQ
 ·intro i o d ho hp hd σ w ρ hW hρ;by_cases h32:i=28
  ·subst h32;rw[ho]at c5;simp only[Option.any_some]at c5;unfold ap4 at c5;split at c5;case h_2=>cases c5
   rename_i t x y dt d' vd kg;simp only[bA,fq]at c5;obtain⟨⟨⟨rfl,rfl⟩,rfl⟩,rfl⟩:=c5;rw[hd]at kg;injection kg with kg;subst kg;rw[v6];have e1:ρ (.tmp 34)=.agg tk:=by have:=hρ (.tmp 34) (by rw[vd];simp[Op.operands]);rw[show aF (S9 P ops cs b6) (.tmp 34)=.agg tk from c1]at this;exact gP c3 this
   have e2:ρ (.tmp 35)=.agg zk:=by have:=hρ (.tmp 35) (by rw[vd];simp[Op.operands]);rw[show aF (S9 P ops cs b6) (.tmp 35)=.agg zk from c2]at this;exact gP c4 this
   refine lO.value (s:=do eqGuard .neq t (.tmp 34) (.tmp 35) (.agg tk) (.agg zk);binOp .neq t (.agg tk) (.agg zk)) ?_ hW (c6 w) (.bool b6);simp only[execOp,vd,e1,e2]
  ·have hi:i∈Ws:=pj.2 ⟨pj.2 ⟨by have:=(eV.1 ho).1;simp;omega,hp⟩,by cases hb:Nat.beq i 28 with|false=>rfl|true=>exact absurd (AU hb) h32⟩;have:=List.map_inj_left.1 h2 i hi;exact Xd hW (by simpa[ho,hd]using this) hρ
 ·rw[h3,h4];exact VR.ptr (σ:=JK B n) ⟨0,0,none⟩ ⟨B,0,n⟩ rfl rfl
def ajU{tm rO:Array ad}{it:ad}(h:tm.size=58)(h0:rO.size=58)(wT:∀t,(t<14\/41<t)->tm[t]? =rO[t]?)(hit:tm.getD 41 aj=it):
 ∃xs:List ad,xs.length=27/\tm=(rO.toList.take 14++(xs++(it::rO.toList.drop 42))).toArray:=by
 have hl:tm.toList.length=58:=by simpa using h
 have Ss:rO.toList.length=58:=by simpa using h0
 refine⟨(tm.toList.drop 14).take 27,by simp[hl],?_⟩;apply Array.ext';apply oJ;intro i;simp only[];by_cases h1:i<14
 ·rw[zl (by simp[Ss];omega),ND h1];have:=wT i (.inl h1);simpa using this
 ·rw[pY (by simp[Ss];omega)];have e14:(rO.toList.take 14).length=14:=by simp[Ss]
  rw[e14];by_cases h2:i<41
  ·rw[zl (by simp[hl];omega),ND (by omega),p9];congr 1;omega
  ·rw[pY (by simp[hl];omega)];have e27:((tm.toList.drop 14).take 27).length=27:=by simp[hl]
   rw[e27];by_cases h3:i=41
   ·subst h3;have:tm[41]? =some it:=by rw[<-hit];simp[jK (show 41<tm.size by omega)]
    simpa using this
   ·obtain⟨j,rfl⟩:∃j,i=j+42:=⟨i-42,by omega⟩;have e:j+42-14-27=j+1:=by omega
    rw[e,Dv,p9];have:=wT (j+42) (.inr (by omega));have e2:42+j=j+42:=by omega
    rw[e2];simpa using this
def jY{H:Type}{P:ag}{e:af}(he:P.underlying e=some .bool){v:ad}{y:cp H×List di}(h:plainElem P e v=some y):∃c,v=.bool c:=by unfold plainElem at h;rw[he]at h;cases v<;>simp at h;exact⟨_,rfl⟩
def acu{σ:dz}{cs:List ad}{w':ar}{B n:Nat}(h:bI σ (Dh cs) w'.heap)(hσ:σ 0=some ⟨B,0,n⟩){i:Nat}{v:ad}(hv:cs[i]? =some v)(hp:bL v=true):w'.cell? ⟨B,i,none⟩=some v:=by
 have hg:(Dh cs).get 0=some (.cells cs):=by show T.get (path 0) (T.set (some (dI.cells cs)) (path 0) .lf)=_;exact T.oX _ _ _
 obtain⟨c,t,fr,h1,_,_,_,h4⟩:=h.obj 0 _ _ hg hσ;obtain⟨v',h5,h6⟩:=h4 i v hv;rw[gP hp h6]at h5;simp only[aJ]at h5;simp[World.cell?,h1,h5]
def DX(g0 g1 g2 g3 g4 g5 g6 g7:Bool):Int:=(cond g0 1 0+(cond g1 2 0+(cond g2 4 0+(cond g3 8 0+(cond g4 16 0+(cond g5 32 0+(cond g6 64 0+cond g7 128 0)))))):Nat)
structure awq (P:ag) (TK TE m r n:Nat) (D:cp Unit) (left:Lit->Bool) (vY:Nat) (w:ar) where
 x:Int
 c:Bool
 w1:ar
 VD:Nat
 hl:left (.ae x)=true
 sI:∀zd,D.atKey (.ae x) zd=.lit (.bool c)
 RY:w1.ranges P TK (plainElem P TE) m r n D (λz=>left z&& !z.sameKey (.ae x)) VD
 lA:VD<vY
 XQ:w.grownBy w1 (some r)
 vZ:w1.heap.size=w.heap.size
 hen:(Instr.entry (.pointer (some ⟨r,0,none⟩))).run P w1=.ok (.tuple #[.ae x,.bool c]) w1
def Fv{P:ag}{ops:Array am}{kn:List am}{o:am}{a:bw}{w:ar}{Q:dx->bw->ar->Prop}(hg:o.guard=none)(it:au)(vd:o.op=Op.next it false){TK TE m r n:Nat}{D:cp Unit}{left:Lit->Bool}{vY:Nat}
 (hk:P.underlying TK=some (.int .i64))(he:P.underlying TE=some .bool)(hit:a.eval it=.pointer (some ⟨r,0,none⟩))(h:w.ranges P TK (plainElem P TE) m r n D left vY)
 (an8:(∀kl,left kl=false)->wpList P ops Q kn (a.put o.dst (.tuple #[.bool false])) w)
 (arh:∀z:awq P TK TE m r n D left vY w,wpList P ops Q kn (a.put o.dst (.tuple #[.bool true,.ae z.x,.bool z.c])) z.w1):wpList P ops Q (o::kn) a w:=
 wpList_next_ranges (α:=Int) (β:=Bool) w hg it vd TK (Go.Maps.int_keyed hk) (plainElem P TE) (Value.int .i64) Value.bool (λkey kl QD=>by obtain⟨x,rfl,_⟩:=Go.Maps.keyOf_int_inv hk QD;exact⟨x,rfl⟩) (λv y hv=>jY he hv) m r n D left vY hit h (λ_=>an8)
  (λx c kl y w1 VD QD hlk hy sI RY lA XQ vZ hen=>by obtain⟨x',ex,rfl,_⟩:=Go.Maps.keyOf_int_inv hk QD;cases ex;rw[plainElem_bool he]at hy;injection hy with hy;subst hy;exact arh ⟨x,c,w1,VD,hlk,sI,RY,lA,XQ,vZ,hen⟩)
def acy{b0 b1 b2 b3 b4 b5 b6 b7 c:Bool}{x:Int}(h:Maps.has (Kv b0 b1 b2 b3 b4 b5 b6 b7) (.ae x)=true)(sI:∀zd,(Kv b0 b1 b2 b3 b4 b5 b6 b7).atKey (.ae x) zd=.lit (.bool c)):
 (x=1/\c=b0)\/(x=2/\c=b1)\/(x=4/\c=b2)\/(x=8/\c=b3)\/(x=16/\c=b4)\/(x=32/\c=b5)\/(x=64/\c=b6)\/(x=128/\c=b7):=by
 have hx:x=1\/x=2\/x=4\/x=8\/x=16\/x=32\/x=64\/x=128:=by simp only[Maps.has,Kv,OV,ent,oG,jF,List.any_cons,List.any_nil,Bool.or_false,oA]at h;rcases h with h|h|h|h|h|h|h|h<;>(have:=WideAt.sameKey_eq h;injection this with _ this;simp_all)
 rcases hx with rfl|rfl|rfl|rfl|rfl|rfl|rfl|rfl
 ·have:(DataW.lit (.bool b0):cp Unit)=.lit (.bool c):=sI .nil;injection this with this;injection this with this;simp[this]
 ·have:(DataW.lit (.bool b1):cp Unit)=.lit (.bool c):=sI .nil;injection this with this;injection this with this;simp[this]
 ·have:(DataW.lit (.bool b2):cp Unit)=.lit (.bool c):=sI .nil;injection this with this;injection this with this;simp[this]
 ·have:(DataW.lit (.bool b3):cp Unit)=.lit (.bool c):=sI .nil;injection this with this;injection this with this;simp[this]
 ·have:(DataW.lit (.bool b4):cp Unit)=.lit (.bool c):=sI .nil;injection this with this;injection this with this;simp[this]
 ·have:(DataW.lit (.bool b5):cp Unit)=.lit (.bool c):=sI .nil;injection this with this;injection this with this;simp[this]
 ·have:(DataW.lit (.bool b6):cp Unit)=.lit (.bool c):=sI .nil;injection this with this;injection this with this;simp[this]
 ·have:(DataW.lit (.bool b7):cp Unit)=.lit (.bool c):=sI .nil;injection this with this;injection this with this;simp[this]
def or0:∀g1 g2 g3 g4 g5 g6 g7:Bool,bits .or .i64 (DX false g1 g2 g3 g4 g5 g6 g7) 1=DX true g1 g2 g3 g4 g5 g6 g7:=by decide+kernel
def or1:∀g0 g2 g3 g4 g5 g6 g7:Bool,bits .or .i64 (DX g0 false g2 g3 g4 g5 g6 g7) 2=DX g0 true g2 g3 g4 g5 g6 g7:=by decide+kernel
def or2:∀g0 g1 g3 g4 g5 g6 g7:Bool,bits .or .i64 (DX g0 g1 false g3 g4 g5 g6 g7) 4=DX g0 g1 true g3 g4 g5 g6 g7:=by decide+kernel
def or3:∀g0 g1 g2 g4 g5 g6 g7:Bool,bits .or .i64 (DX g0 g1 g2 false g4 g5 g6 g7) 8=DX g0 g1 g2 true g4 g5 g6 g7:=by decide+kernel
def or4:∀g0 g1 g2 g3 g5 g6 g7:Bool,bits .or .i64 (DX g0 g1 g2 g3 false g5 g6 g7) 16=DX g0 g1 g2 g3 true g5 g6 g7:=by decide+kernel
def or5:∀g0 g1 g2 g3 g4 g6 g7:Bool,bits .or .i64 (DX g0 g1 g2 g3 g4 false g6 g7) 32=DX g0 g1 g2 g3 g4 true g6 g7:=by decide+kernel
def or6:∀g0 g1 g2 g3 g4 g5 g7:Bool,bits .or .i64 (DX g0 g1 g2 g3 g4 g5 false g7) 64=DX g0 g1 g2 g3 g4 g5 true g7:=by decide+kernel
def or7:∀g0 g1 g2 g3 g4 g5 g6:Bool,bits .or .i64 (DX g0 g1 g2 g3 g4 g5 g6 false) 128=DX g0 g1 g2 g3 g4 g5 g6 true:=by decide+kernel
def adS{left:Lit->Bool}{x:Int}{c:Bool}{b0 b1 b2 b3 b4 b5 b6 b7:Bool}(hl:left (.ae x)=true)
 (h8:(x=1/\c=b0)\/(x=2/\c=b1)\/(x=4/\c=b2)\/(x=8/\c=b3)\/(x=16/\c=b4)\/(x=32/\c=b5)\/(x=64/\c=b6)\/(x=128/\c=b7)):
 (c=false->DX (!left (.ae 1)&&b0) (!left (.ae 2)&&b1) (!left (.ae 4)&&b2) (!left (.ae 8)&&b3) (!left (.ae 16)&&b4) (!left (.ae 32)&&b5) (!left (.ae 64)&&b6) (!left (.ae 128)&&b7)=DX (!(λz=>left z&& !z.sameKey (.ae x)) (.ae 1)&&b0) (!(λz=>left z&& !z.sameKey (.ae x)) (.ae 2)&&b1) (!(λz=>left z&& !z.sameKey (.ae x)) (.ae 4)&&b2) (!(λz=>left z&& !z.sameKey (.ae x)) (.ae 8)&&b3) (!(λz=>left z&& !z.sameKey (.ae x)) (.ae 16)&&b4) (!(λz=>left z&& !z.sameKey (.ae x)) (.ae 32)&&b5) (!(λz=>left z&& !z.sameKey (.ae x)) (.ae 64)&&b6) (!(λz=>left z&& !z.sameKey (.ae x)) (.ae 128)&&b7))/\
 (c=true->bits .or .i64 (DX (!left (.ae 1)&&b0) (!left (.ae 2)&&b1) (!left (.ae 4)&&b2) (!left (.ae 8)&&b3) (!left (.ae 16)&&b4) (!left (.ae 32)&&b5) (!left (.ae 64)&&b6) (!left (.ae 128)&&b7)) x=DX (!(λz=>left z&& !z.sameKey (.ae x)) (.ae 1)&&b0) (!(λz=>left z&& !z.sameKey (.ae x)) (.ae 2)&&b1) (!(λz=>left z&& !z.sameKey (.ae x)) (.ae 4)&&b2) (!(λz=>left z&& !z.sameKey (.ae x)) (.ae 8)&&b3) (!(λz=>left z&& !z.sameKey (.ae x)) (.ae 16)&&b4) (!(λz=>left z&& !z.sameKey (.ae x)) (.ae 32)&&b5) (!(λz=>left z&& !z.sameKey (.ae x)) (.ae 64)&&b6) (!(λz=>left z&& !z.sameKey (.ae x)) (.ae 128)&&b7)):=by
 have e:∀a b:Int,(Lit.int .i64 a).sameKey (.ae b)=decide (a=b):=by intro a b;simp[Lit.sameKey]
 rcases h8 with⟨rfl,rfl⟩|⟨rfl,rfl⟩|⟨rfl,rfl⟩|⟨rfl,rfl⟩|⟨rfl,rfl⟩|⟨rfl,rfl⟩|⟨rfl,rfl⟩|⟨rfl,rfl⟩
 ·exact⟨λhc=>by simp[e,hl,hc],λhc=>by simp[e,hl,hc,or0]⟩
 ·exact⟨λhc=>by simp[e,hl,hc],λhc=>by simp[e,hl,hc,or1]⟩
 ·exact⟨λhc=>by simp[e,hl,hc],λhc=>by simp[e,hl,hc,or2]⟩
 ·exact⟨λhc=>by simp[e,hl,hc],λhc=>by simp[e,hl,hc,or3]⟩
 ·exact⟨λhc=>by simp[e,hl,hc],λhc=>by simp[e,hl,hc,or4]⟩
 ·exact⟨λhc=>by simp[e,hl,hc],λhc=>by simp[e,hl,hc,or5]⟩
 ·exact⟨λhc=>by simp[e,hl,hc],λhc=>by simp[e,hl,hc,or6]⟩
 ·exact⟨λhc=>by simp[e,hl,hc],λhc=>by simp[e,hl,hc,or7]⟩
def BV{H:Type}{P:ag}{k:af}{w:ar}{Re:ad->Option (cp H×List di)}{b r n vY:Nat}{D:cp H}{left:Lit->Bool}(h:w.ranges P k Re b r n D left vY):∀a:bg,a.block=r->w.frozen? a=false:=λa ha=>Qj h ha
def LA(b0 b1 b2 b3 b4 b5 b6 b7:Bool)(u:Int):Int:=if bits .andNot .i64 (DX b0 b1 b2 b3 b4 b5 b6 b7) u=0 then 0 else 2
def Xw{H:Type}{P:ag}{k:af}{w:ar}{Re:ad->Option (cp H×List di)}{b r n vY:Nat}{D:cp H}{left:Lit->Bool}(h:w.ranges P k Re b r n D left vY):r<w.heap.size:=by obtain⟨es,nW,since,seen,c0,_,_,_,_,hr,_⟩:=h;exact(eV.1 hr).1
end
section
variable [ai]
def jg(k ow un se sc n to t1 t2 t3 t4 nw:Int):Array ad:=#[.ae k,.int .u32 ow,.ae un,.ae se,.ae sc,.ae n,.int .u32 to,.int .u32 t1,.int .u32 t2,.int .u64 t3,.int .u64 t4,.ae nw]
def Qv(ow un se sc n to t1 t2 t3 t4 nw u:Int):Int:=
 LA (!decide (ow=0)) (!decide (un=0)) (!decide (se=0)) (!decide (sc=0)) (!decide (n=0)) (!decide (to=0)) (!((t1==0)&&((t2==0)&&((t3==0)&&((t4==0)&&true))))) (!decide (nw=0)) u
def NY(c:List ad)(W:AW):Option ad:=
 match c with
 |[.int .i64 k,.int .u32 ow,.int .i64 un,.int .i64 se,.int .i64 sc,.int .i64 n,.int .u32 to,.int .u32 t1,.int .u32 t2,.int .u64 t3,.int .u64 t4,.int .i64 nw]=>
  (match decide (k<1)||decide (12<k)with
  |true=>some (.ae 2)
  |false=>match W.get 0 with
   |some (.ro us)=>(match us[k.toNat]? with
    |some (.int .i64 u)=>some (.ae (Qv ow un se sc n to t1 t2 t3 t4 nw u))
    |_=>none)
   |_=>none)
 |_=>none
def chk(F:Nat):Callee:=λf args W=>match f with
 |.func (.func g) fs cs=>(match Nat.beq g F&&(fs.isEmpty&&cs.isEmpty)with
  |true=>(match args with
   |[.agg c]=>(match NY c.toList W with
    |some v=>some (v,W)
    |none=>none)
   |_=>none)
  |false=>none)
 |_=>none
def eE.box(w:ar)(cs:Array ad)(t:af):eE w (w.alloc (.cells cs t)):=by exact⟨rfl,rfl,rfl,by simp,λB hB=>(Ea w _ none).block B hB (by simp)⟩
def ael{P:ag}{ng:List Nat}(h0:0∈ng){F:Nat}{fn:iC}{body:bU}(LK:P.funcs[F]? =some fn)(qN:(fn.name== "runtime.NumGoroutine")=false)(hb:fn.body=some body)
 (nP:∀(k ow un se sc n to t1 t2 t3 t4 nw u:Int) (w:ar),¬k<1->¬12<k->w.cell? ⟨0,k.toNat,none⟩=some (.ae u)->
   Calls P F #[.agg (jg k ow un se sc n to t1 t2 t3 t4 nw)] w λe w'=>e=.returned (.ae (Qv ow un se sc n to t1 t2 t3 t4 nw u))/\eE w w')
 (Gd:∀(k ow un se sc n to t1 t2 t3 t4 nw:Int) (w:ar),(k<1\/12<k)->
   Calls P F #[.agg (jg k ow un se sc n to t1 t2 t3 t4 nw)] w λe w'=>e=.returned (.ae 2)/\eE w w'):cl P ng (chk F):=by
 intro f args W v W' h σ w f' cZ hW hG hf da;unfold chk at h;split at h;case h_2=>cases h
 rename_i g fs cs;split at h;case h_2=>cases h
 rename_i Ru;simp only[bA,fq,Au]at Ru;obtain⟨rfl,rfl,rfl⟩:=Ru;split at h;case h_2=>cases h
 rename_i c;split at h;case h_2=>cases h
 rename_i v1 WH;injection h with h;injection h with h1 h2;subst h1;subst h2;obtain⟨Lo,yg,cV,ET,H4,sW,rfl⟩:=hf.mG;cases ET;obtain rfl:yg=#[]:=by have h1:yg.toList.length=0:=H4.1.symm;exact vE.1 (mw.1 h1)
 obtain rfl:cV=#[]:=by have h1:cV.toList.length=0:=sW.1.symm;exact vE.1 (mw.1 h1)
 obtain⟨a0,rfl⟩:∃a0,cZ=[a0]:=by
  have:=da.1;match cZ,this with
  |[a0],_=>exact⟨a0,rfl⟩
 unfold NY at WH;split at WH;case h_2=>cases WH
 rename_i k ow un se sc n to t1 t2 t3 t4 nw hc;have yT:c=jg k ow un se sc n to t1 t2 t3 t4 nw:=by apply Array.ext';rw[hc];rfl
 subst yT;have ha:a0=.agg (jg k ow un se sc n to t1 t2 t3 t4 nw):=gP (v:=.agg (jg k ow un se sc n to t1 t2 t3 t4 nw)) rfl (da.2 0 _ _ rfl rfl);subst ha;have mu:∀z:Int,(Calls P g #[.agg (jg k ow un se sc n to t1 t2 t3 t4 nw)] w λe w'=>e=.returned (.ae z)/\eE w w')->
  BT P (.func (.func g) #[] #[]) [.agg (jg k ow un se sc n to t1 t2 t3 t4 nw)] w (λv' w'=>∃σ',VR σ' (.ae z) v'/\bI σ' W w'.heap/\fT σ W w σ' W w'):=by
  intro z hz;refine⟨fk LK qN hb _ w,?_⟩;refine oV (show CallsIn Fence.wide 0 P g _ w _ from(uy (n:=0)).2 hz) ?_;rintro e w' ⟨rfl,hq⟩;exact⟨_,rfl,σ,.int _ _,hq.rel hW,hq.ext σ W⟩
 split at WH
 ·rename_i hk;injection WH with WH;subst WH;exact mu _ (Gd _ _ _ _ _ _ _ _ _ _ _ _ w (by simpa using hk))
 ·rename_i hk;simp only[Bool.or_eq_false_iff,decide_eq_false_iff_not]at hk;split at WH;case h_2=>cases WH
  rename_i us hus;split at WH;case h_2=>cases WH
  rename_i u hu;injection WH with WH;subst WH;obtain⟨e,he⟩:=hG 0 h0;obtain⟨cc,t,fr,k1,_,k3⟩:=hW.obj 0 _ _ hus he;have VP:w.cell? ⟨0,k.toNat,none⟩=some (.ae u):=by obtain⟨v',this,hv'⟩:=k3 _ _ hu;obtain rfl:=hv'.uu;simp only[aJ]at this;simp[World.cell?,k1,this]
  exact mu _ (nP _ _ _ _ _ _ _ _ _ _ _ _ _ w hk.1 hk.2 VP)
def YH{gs:List (Nat×List ad)}{N:Nat}{σ':dz}{W':AW}{w w':ar}(he:fT (σG gs) (WG gs N) w σ' W' w'):eE w w':=
 ⟨he.os,he.tape,he.output,he.size,λB hB=>he.keep B hB ars⟩
def sf{P:ag}(hm:P.follows .mixedOrders=true){bad:List Nat}(hP:nk ai.ng bad 0 P.funcs.toList=true){spec:Callee}(hs:cl P ai.ng spec)(n:Nat)
 {gs:List (Nat×List ad)}{N:Nat}(hN:gs.all (λx=>Nat.blt x.1 N)=true)(VQ:ai.ng.all (λg=>(gs.find? (λx=>x.1==g)).isSome)=true){i:Nat}{args:List ad}(qk:args.all bL=true)
 (h:Tp (Va P bad spec n (.func (.func i) #[] #[]) args (WG gs N))=true)(w:ar)(hl:GR gs w.heap):
 Calls P i args.toArray w λe w'=>e=.returned (.bool true)/\eE w w':=by
 obtain⟨W',hr⟩:=Yv h;have hc:=Nd hm rfl hP hs n _ _ _ _ _ hr (σG gs) w (.func (.func i) #[] #[]) args (aiR hN hl) (abl VQ)
  (.func _ _ _ _ _ _ (.func i) rfl (λi v v' x=>by simp at x) rfl (λi v v' x=>by simp at x)) (TD qk)
 unfold BT at hc;obtain⟨_,hc⟩:=hc;have e1:(#[]:Array ad)++args.toArray++#[]=args.toArray:=by simp
 rw[e1]at hc;refine(uy (n:=0)).1 ?_;refine oV (show CallsIn Fence.wide 0 P i args.toArray w _ from hc) ?_;rintro e w' ⟨v,rfl,σ',hv,_,he⟩;exact⟨by rw[hv.jY],YH he⟩
def uF{ng bad:List Nat}{F:Nat}:∀{l:List iC} {i:Nat},nk ng bad i l=true->nk ng (F::bad) i l=true
 |[],_,_=>rfl
 |f::l,i,h=>by
  simp only[nk,bA,oA]at h|-;refine⟨?_,uF h.2⟩;rcases h.1 with h1|h1
  ·exact .inl (x8.2 (List.mem_cons_of_mem _ (x8.1 h1)))
  ·exact .inr h1
end
section
variable [ai]
def P3:List (Nat×Callee)->Callee
 |[]=>λ_ _ _=>none
 |(F,c)::l=>λf args W=>match f with
  |.func (.func g) fs cs=>(match Nat.beq g F with
   |true=>c (.func (.func g) fs cs) args W
   |false=>P3 l (.func (.func g) fs cs) args W)
  |_=>none
def Km{P:ag}{ng:List Nat}:∀{l:List (Nat×Callee)},(∀x∈l,cl P ng x.2)->cl P ng (P3 l)
 |[],_=>λf args W v W' h=>by cases h
 |(F,c)::l,hl=>by
  intro f args W v W' h;unfold P3 at h;split at h;case h_2=>cases h
  split at h
  ·exact hl (F,c) (by simp) _ _ _ _ _ h
  ·exact Km (λx hx=>hl x (by simp[hx])) _ _ _ _ _ h
def KV(gs:List (Nat×List ad))(W:AW):Prop:=∀x∈gs,W.get x.1=some (.ro x.2)/\x.1<W.next
def KV.mono{gs:List (Nat×List ad)}{W W':AW}(h:KV gs W)(aM:Le W W'):KV gs W':=λx hx=>⟨by rw[aM.get _ (h x hx).2];exact(h x hx).1,ff (h x hx).2 aM.next⟩
def Ek(F:Nat)(gs:List (Nat×List ad))(val:List ad->Option ad):Callee:=λf args W=>match f with
 |.func (.func g) fs cs=>(match Nat.beq g F&&(fs.isEmpty&&cs.isEmpty)with
  |true=>open Classical in if KV gs W then(match val args with
   |some v=>if bL v&&args.all bL then some (v,W)else none
   |none=>none)else none
  |false=>none)
 |_=>none
def aea{F:Nat}{gs:List (Nat×List ad)}{val:List ad->Option ad}{args:List ad}{W:AW}{v:ad}(hg:KV gs W)(hv:val args=some v)(hp:bL v=true)(ha:args.all bL=true):
 Ek F gs val (.func (.func F) #[] #[]) args W=some (v,W):=by
 unfold Ek;simp only[uC,Array.isEmpty_empty,fN,an hg,hv,hp,ha,bi]
def adZ{P:ag}{ng:List Nat}{F:Nat}{fn:iC}{body:bU}(LK:P.funcs[F]? =some fn)(qN:(fn.name== "runtime.NumGoroutine")=false)(hb:fn.body=some body){gs:List (Nat×List ad)}(N9:gs.all (λx=>x.2.all cC&&PG x.1 ng)=true){val:List ad->Option ad}
 (yC:∀args v,val args=some v->∀w:ar,GR gs w.heap->Calls P F args.toArray w λe w'=>e=.returned v/\eE w w'):cl P ng (Ek F gs val):=by
 intro f args W v W' h σ w f' cZ hW hG hf da;unfold Ek at h;split at h;case h_2=>cases h
 rename_i g fs cs;split at h;case h_2=>cases h
 rename_i Ru;simp only[bA,fq,Au]at Ru;obtain⟨rfl,rfl,rfl⟩:=Ru;split at h;case isFalse=>cases h
 rename_i hgl;split at h;case h_2=>cases h
 rename_i u hu;split at h;case isFalse=>cases h
 rename_i qk;injection h with h;injection h with h1 h2;subst h1;subst h2;simp only[bA]at qk;obtain⟨Lo,yg,cV,ET,H4,sW,rfl⟩:=hf.mG;cases ET;obtain rfl:yg=#[]:=by have h1:yg.toList.length=0:=H4.1.symm;exact vE.1 (mw.1 h1)
 obtain rfl:cV=#[]:=by have h1:cV.toList.length=0:=sW.1.symm;exact vE.1 (mw.1 h1)
 obtain rfl:cZ=args:=LR.acD (λv v'=>gP) qk.2 da;have hl:GR gs w.heap:=λx hx=>by have hs:=db.1 N9 x hx;simp only[bA]at hs;obtain⟨e,he⟩:=hG x.1 (x8.1 hs.2);obtain⟨c,t,fr,k1,_,k3⟩:=hW.obj x.1 _ _ (hgl x hx).1 he;refine⟨c,t,fr,k1,λi v hv=>?_⟩;obtain⟨v',a,b⟩:=k3 i v hv;have hsv:=db.1 hs.1 v (xV hv);have:v'=v:=MP hsv b;subst this;exact⟨by simpa using a,hsv⟩
 refine⟨fk LK qN hb _ w,?_⟩;have e1:(#[]:Array ad)++cZ.toArray++#[]=cZ.toArray:=by simp
 rw[e1];refine oV (show CallsIn Fence.wide 0 P g _ w _ from(uy (n:=0)).2 (yC _ _ hu w hl)) ?_;rintro e w' ⟨rfl,hq⟩;exact⟨_,rfl,σ,jM qk.1,hq.rel hW,hq.ext σ W⟩
def MR(σ:dz)(W:AW):Prop:=∀b g,σ b=some g->∃cs,W.get b=some (.ro cs)
def MR.quiet{σ σ':dz}{W W':AW}{w w':ar}(h:MR σ W)(he:fT σ W w σ' W' w'):eE w w':=
 ⟨he.os,he.tape,he.output,he.size,λB hB=>he.keep B hB (by rintro⟨b,g,hg,_,hn⟩;obtain⟨cs,hc⟩:=h b g hg;exact hn cs hc)⟩
def aat{P:ag}{o:Callee}(mQ:cl P ai.ng o){σ:dz}{W W':AW}{w:ar}(hW:bI σ W w.heap)(hG:BC σ ai.ng)(uK:MR σ W){i:jU}{args cZ:List ad}(da:LR σ args cZ){v:ad}(hv:bL v=true)
 (h:o (.func (.func i) #[] #[]) args W=some (v,W')):Calls P i cZ.toArray w λe w'=>e=.returned v/\eE w w':=by
 have hc:=mQ _ _ _ _ _ h σ w (.func (.func i) #[] #[]) cZ hW hG (.func _ _ _ _ _ _ (.func i) rfl (λi v v' x=>by simp at x) rfl (λi v v' x=>by simp at x)) da;unfold BT at hc;obtain⟨_,hc⟩:=hc;have e1:(#[]:Array ad)++cZ.toArray++#[]=cZ.toArray:=by simp
 rw[e1]at hc;refine(uy (n:=0)).1 ?_;refine oV (show CallsIn Fence.wide 0 P i cZ.toArray w _ from hc) ?_;rintro e w' ⟨v',rfl,σ',hv',_,he⟩;exact⟨by rw[gP hv hv'],uK.quiet he⟩
def ah4{gs:List (Nat×List ad)}{N:Nat}:MR (σG gs) (WG gs N):=by intro b g hg;obtain⟨x,_,_,_,ht⟩:=wH hg;exact⟨x.2,ht⟩
def afP{gs:List (Nat×List ad)}{N:Nat}(hN:gs.all (λx=>Nat.blt x.1 N)=true)(hd:∀x∈gs,gs.find? (λy=>y.1==x.1)=some x):KV gs (WG gs N):=by intro x hx;refine⟨?_,show x.1<N by have:=db.1 hN x hx;simpa[jG]using this⟩;show T.get (path x.1) (IT gs)=_;rw[A3,hd x hx];rfl
end
end Go.Eng
namespace Go.Eng
open Go
section
variable [ai]
section
variable {P:ag} {W:AW}
def bf(l:List UInt8):ByteArray:=⟨l.toArray⟩
def SJ(b:ByteArray):bf b.data.toList=b:=by cases b;simp[bf]
def nS(l:List UInt8):(bf l).size=l.length:=by simp[bf,ByteArray.size]
def CM(l:List Nat):Gk l=.string (bf (l.map UInt8.ofNat)):=aS rfl rfl
def HR(l:List UInt8)(i:Nat):(bf l)[i]? =l[i]? :=by
 by_cases h:i<l.length
 ·have h2:i<(bf l).size:=by rw[nS];exact h
  rw[bN h,getElem?_pos (bf l) i h2];rfl
 ·rw[kF (by omega),getElem?_neg (bf l) i (by rw[nS];exact h)]
def Hk{s:Sem ad}{v:ad}(h:cH P s=some v)(hv:bL v=true)(c:Bool)(hc:c=true):(nX P c (do pure (.value (<-s)))).map (λv=>(v,W))=some (v,W):=by subst hc;unfold nX;simp only[bi,QT h,hv,dA]
def lQ{t:af}(hs:P.underlying t=some .string){l:List UInt8}{i:Nat}{k:be}(hi:i<l.length):rS P t (.string (bf l)) (.int k (i:Int)) W=some (.int .u8 (l[i].toNat:Int),W):=by
 have e:rS P t (.string (bf l)) (.int k (i:Int)) W=(nX P (bL (.string (bf l))&&(bL (.int k (i:Int))&&true)) (do pure (.value (<-Instr.index t (.string (bf l)) (.int k (i:Int)))))).map λv=>(v,W):=by unfold rS;rw[hs]
 rw[e];refine Hk ?_ rfl _ rfl;unfold Instr.index;have h0:(0:Int)<=(i:Int):=by omega
 simp only[asIntOf,pure_bind,fh,fB hs,bJ,h0,bi,vj,HR,bN hi,gl]
def fX{ts:Array af}{ty:af}{cf:Array Bool}(h:(ts[0]?).bind P.underlying=some .string)(l:List UInt8):aV P .len ts ty cf [.string (bf l)] W=some (.ae l.length,W):=by
 obtain⟨t,h1,h2⟩:∃t,ts[0]? =some t/\P.underlying t=some .string:=by
  cases ht:ts[0]? with
  |none=>rw[ht]at h;cases h
  |some t=>rw[ht]at h;exact⟨t,rfl,h⟩
 have e:aV P .len ts ty cf [.string (bf l)] W=(nX P ([Value.string (bf l)].all bL) (builtin .len ts ty cf #[.string (bf l)])).map λv=>(v,W):=by unfold aV;rfl
 rw[e];have e2:builtin .len ts ty cf #[.string (bf l)]=(do pure (.value (<-Builtin.len_ ts ty #[.string (bf l)]))):=rfl;rw[e2];refine Hk ?_ rfl _ rfl;unfold Builtin.len_;simp only[h1,List.getElem?_toArray,Fj,fh,fB h2,bJ,gl,nS];rfl
def za(l:List UInt8)(a b:Nat):(bf l).extract a b=bf ((l.take b).drop a):=by
 have h:((bf l).extract a b).data=(bf ((l.take b).drop a)).data:=by rw[ByteArray.data_extract];apply qn.1;simp[bf,Nx,List.drop_take]
 cases hx:(bf l).extract a b with
 |mk d=>rw[hx]at h;simp only at h;rw[h]
def aba{t:af}(hs:P.underlying t=some .string){l:List UInt8}{a:Nat}{k:be}(h:a<=l.length):ft P t (.string (bf l)) (some (.int k (a:Int))) none none W=some (.string (bf (l.drop a)),W):=by
 have e:ft P t (.string (bf l)) (some (.int k (a:Int))) none none W=(nX P (([Value.string (bf l),.int k (a:Int)]:List ad).all bL) (do pure (.value (<-Instr.sliceAt t (.string (bf l)) (some (.int k (a:Int))) none none)))).map λv=>(v,W):=by unfold ft nH;rw[hs];rfl
 rw[e];refine Hk ?_ rfl _ rfl;have h0:(0:Int)<=(a:Int)/\(a:Int)<=((bf l).size:Int):=by rw[nS];omega
 have hx:(bf l).extract a (bf l).size=bf (l.drop a):=by rw[za,nS,cM]
 unfold Instr.sliceAt Instr.slice Instr.sliceBounds Instr.sliceBound;simp only[fh,fB hs,bJ,asIntOf,pure_bind,h0,mY,bi,gl,vj,hx,vR,ik,cn]
def akk{t:af}(hs:P.underlying t=some .string){l:List UInt8}{a:Nat}{k:be}(h:a<=l.length):ft P t (.string (bf l)) none (some (.int k (a:Int))) none W=some (.string (bf (l.take a)),W):=by
 have e:ft P t (.string (bf l)) none (some (.int k (a:Int))) none W=(nX P (([Value.string (bf l),.int k (a:Int)]:List ad).all bL) (do pure (.value (<-Instr.sliceAt t (.string (bf l)) none (some (.int k (a:Int))) none)))).map λv=>(v,W):=by unfold ft nH;rw[hs];rfl
 rw[e];refine Hk ?_ rfl _ rfl;have h0:(0:Int)<=(a:Int)/\(a:Int)<=((bf l).size:Int):=by rw[nS];omega
 have hx:(bf l).extract 0 a=bf (l.take a):=by rw[za];simp
 unfold Instr.sliceAt Instr.slice Instr.sliceBounds Instr.sliceBound;simp only[fh,fB hs,bJ,asIntOf,pure_bind,h0,mY,bi,gl,vj,hx,vR,ik,cn]
def B4(l:List UInt8):(bf l).toList=l:=by rw[ByteArray.toList_eq];rfl
def uk{t:af}{c d:Bool}{a b:List UInt8}:bO P .eql t c d (.string (bf a)) (.string (bf b)) W=some (.bool (a==b),W):=by rw[Gf,B4,B4]
def aR(a:bg):sQ (.pointer (some a)) W=some (.pointer (some a),W):=aS rfl rfl
def sB{t:af}{x:ad}:iX P [(x,some t)] W=(jx P t x W).bind λr=>some (r.1,W):=by unfold iX jx;simp only[wv];cases mh P W t x<;>rfl
def bC{t:af}{x u:ad}:iX P [(x,some t),(u,none)] W=(jx P t x W).bind λr=>some (.tuple #[r.1,u],W):=by unfold iX jx;simp only[wv];cases mh P W t x<;>rfl
def AX{t t2:af}{x y:ad}:iX P [(x,some t),(y,some t2)] W=(jx P t x W).bind λr=>(jx P t2 y W).bind λq=>some (.tuple #[r.1,q.1],W):=by unfold iX jx;simp only[wv];cases mh P W t x<;>cases mh P W t2 y<;>rfl
def D3{t t2:af}{x y u:ad}:iX P [(x,some t),(y,some t2),(u,none)] W=(jx P t x W).bind λr=>(jx P t2 y W).bind λq=>some (.tuple #[r.1,q.1,u],W):=by unfold iX jx;simp only[wv];cases mh P W t x<;>cases mh P W t2 y<;>rfl
def ahn{b:Nat}{cs:List ad}(h:aU W b=some cs)(h1:cs.all one=true):eZ cs.length (.pointer (some ⟨b,0,none⟩)) (.agg cs.toArray) W=some (aj,W.put b (.cells cs)):=by rw[Do,h];simp only[bJ,xR,aJ,aQ,h1,mY,bi,iG,pd,jF,List.drop_length,fu]
def xH{b n:Nat}{cs:List ad}(h:aH W b=some cs)(hn:cs.length=n):dJ n (.pointer (some ⟨b,0,none⟩)) W=some (.agg cs.toArray,W):=by rw[JV,h];simp only[bJ,jj,<-hn,cM,bi]
end
end
def SX:=aC @Dk (aC @ama (aC @iB (aC @Rc (aC @X6 (aC @RT (aC @Tr (aC @YL (aC @Ti (aC @Oh (aC @Pu (aC @NF (aC @O7 (aC @Pe (aC @acb (aC @Ze (aC @adJ (aC @Zi (aC @aaf (aC @To (aC @NG (aC @Tz (aC @YB (aC @Td (aC @Xt (aC @Oo (aC @XI (aC @ahJ (aC @aaM (aC @agL (aC @adA (aC @aao (aC @ac4 (aC @abC (aC @acj (aC @aeD (aC @Ui (aC @TU (aC @Uv (aC @abI (aC @alK (aC @Bool.not_true (aC @Bool.not_false (aC @decide_true (@decide_false))))))))))))))))))))))))))))))))))))))))))))
def MX:=aC @Tf (aC @JV (aC @bF (aC @df (aC @bJ.{0,0} (aC @dA.{0,0} (aC @jj.{0} (aC @List.drop_succ_cons.{0} (aC @Pq.{0} (aC @pd.{0} (aC @cQ.{0} (aC @qB.{0} (aC @Fj.{0} (aC @Dv.{0} (aC @aJ (aC @bi.{1} (aC @mY (aC @dd (aC @Vi (aC @NH (aC @K8 (aC @aet (aC @AV (aC @Qx (aC @Wq (aC @fQ (aC @Ur (aC @XB (aC @lK (aC @I6 (aC @Pb (aC @mZ (aC @il (aC @fN (aC @i8 (aC @agb (aC @uZ (aC @Ap (aC @TH (aC @js (aC @Do (aC @Ha (aC @fP (aC @uY (aC @b8 (aC @Ak (aC @bR (aC @Ij.{0} (aC @OW.{0} (aC @jF.{0} (aC @oG.{0} (aC @cF (aC @acS (aC @qc (aC @cL (aC @dC.{0} (aC @xy.{0} (aC @xR.{0} (aC @fu.{0} (aC @Wo (aC @List.drop_nil.{0} (@List.take_nil.{0})))))))))))))))))))))))))))))))))))))))))))))))))))))))))))))
section
variable [ai]
section
variable {P:ag} {W:AW} {α:Type}
def vT(lo:Nat)(W:AW)(z:Nat)(f:α->List ad)(v:ad)(l:List α):Prop:=
 (l=[]/\v=.slice none 0 0)\/(l≠[]/\∃B,lo<=B/\B<W.next/\v=.slice (some ⟨B,0,none⟩) l.length (eG+z)/\W.get B=some (.cells (l.flatMap f)))
def bZ{z:Nat}{f:α->List ad}(hf:∀a,(f a).length=z):∀l:List α,(l.flatMap f).length=l.length*z
 |[]=>by simp
 |a::l=>by rw[fy,cx,hf,bZ hf l,cQ,Nat.succ_mul,Nat.add_comm]
def vT.nil(lo:Nat)(W:AW)(z:Nat)(f:α->List ad):vT lo W z f (.slice none 0 0) []:=.inl ⟨rfl,rfl⟩
def vT.mono{lo z:Nat}{f:α->List ad}{v:ad}{l:List α}{W':AW}(h:vT lo W z f v l)(aM:Le W W'):vT lo W' z f v l:=by
 rcases h with h|⟨h0,B,h1,h2,h3,h4⟩
 ·exact .inl h
 ·exact .inr ⟨h0,B,h1,ff h2 aM.next,h3,by rw[aM.get B h2];exact h4⟩
def vT.push{ts:Array af}{z bytes lo:Nat}{f:α->List ad}{v:ad}{l:List α}{a:α}(hk:kZ P ts z bytes=true)(hf:∀a,(f a).length=z)(h1:∀a,(f a).all one=true)
 (h:vT lo W z f v l){b c:Nat}(hc:aH W b=some (f a))(hb:l.length+1<1099511627776)(lF:(2*(l.length+1)+192)*bytes<=281474976710656)(y5:lo<=W.next):
 ∃v' W',dn P W ts v (.slice (some ⟨b,0,none⟩) 1 c)=some (v',W')/\vT lo W' z f v' (l++[a])/\W.next<=W'.next/\∀A,Le A W->A.next<=lo->Le A W':=by
 have hn:f a=((f a).drop 0).take (1*z):=by rw[jj,kr,<-hf a,cM]
 have hl:(f a).length=1*z:=by rw[hf];omega
 rcases h with⟨rfl,rfl⟩|⟨h0,B,i1,i2,rfl,i4⟩
 ·refine⟨_,_,IA (b:=b) (o:=0) (c:=c) hk hc hn hl (by omega) (h1 a) (by omega) (by simpa using lF),.inr ⟨by simp,W.next,y5,by rw[AW.av];omega,by simp,by rw[AW.aI];simp⟩,by rw[AW.av];omega,λA hA _=>hA.add _⟩
 ·have pF:0<l.length:=vP.2 h0;refine⟨_,_,Pw (b:=b) (o:=0) (c:=c) hk hc hn hl (by omega) (h1 a) i4 (bZ hf l) (by omega) lF pF,.inr ⟨by simp,W.next,y5,by rw[AW.av,AW.dr];omega,by simp,?_⟩,by rw[AW.av,AW.dr];omega,λA hA hl=>(hA.kill (by omega)).add _⟩;have:=(W.kill B).aI (.cells (l.flatMap f++f a));rw[AW.dr]at this;rw[this,iS];simp
def vT.row{lo z:Nat}{f:α->List ad}{v:ad}{l:List α}{at_:List ad->Nat->α->Prop}(hf:∀a,(f a).length=z)(h:vT lo W z f v l)(sI:∀a pre post,at_ (pre++(f a++post)) pre.length a):Row W z at_ v l:=by
 rcases h with⟨rfl,rfl⟩|⟨h0,B,i1,i2,rfl,i4⟩
 ·exact⟨none,0,rfl,.inl rfl⟩
 ·refine⟨_,_,rfl,.inr ⟨B,0,_,rfl,i2,ao i4,λi hi=>?_⟩⟩;have e:l.flatMap f=(l.take i).flatMap f++(f l[i]++(l.drop (i+1)).flatMap f):=by rw[<-fy,<-rC hi,<-iS,vu]
  have e2:((l.take i).flatMap f).length=0+i*z:=by rw[bZ hf,cX];rw[pg (by omega),aJ]
  rw[e,<-e2];exact sI _ _ _
def aj4{W':AW}{z:Nat}{at_:List ad->Nat->α->Prop}{v:ad}{l:List α}(aM:Le W W')(h:Row W' z at_ v l):∃W2,gc W (v,W')=(v,W2)/\Le W W2/\Le W2 W'/\Row W2 z at_ v l:=by
 cases hp:(bL v&& !Za v)
 ·exact⟨W',kB hp,aM,.refl _,h⟩
 ·refine⟨W,Ej hp aM,.refl _,aM,?_⟩;obtain⟨a,c,rfl,h⟩:=h;rcases h with h|⟨b,o,cs,rfl,_⟩
  ·exact⟨a,c,rfl,.inl h⟩
  ·exact absurd hp (by simp[bL,eH,cC])
def alc{o t:Option (ad×AW)}{z:Nat}{at_:List ad->Nat->α->Prop}{l:List α}(h:Ok t λr=>Le W r.2/\Row r.2 z at_ r.1 l)(Nr:∀{r},t=some r->o=some (gc W r)):∃v W2,o=some (v,W2)/\Le W W2/\Row W2 z at_ v l:=by obtain⟨⟨v,W'⟩,h1,h2,h3⟩:=h;obtain⟨W2,k1,k2,_,k3⟩:=aj4 h2 h3;exact⟨v,W2,by rw[Nr h1,k1],k2,k3⟩
end
end
section
variable [ai]
section
variable {P:ag} {bad:List Nat} {spec:Callee}
def aou(x:X)(l:Nat)(R:ai.Fr)(nt:Nat)(ps:Array Tmp)(aC4 bd:bU)(W:AW):ad×AW:=match x with
 |.normal=>(.bool true,W.put l (.loop .ready none R nt ps aC4 bd))
 |x=>(.bool false,W.put l (.loop .done x.jump R nt ps aC4 bd))
def Fm{l nt:Nat}{R:ai.Fr}{ps:Array Tmp}{aC4 bd:bU}{W:AW}{args:List ad}(hl:W.get l=some (.loop .ready none R nt ps aC4 bd))(hn:args.length=ps.size)
 {R1:ai.Fr}{W1:AW}(h1:ga P (om P bad spec) false nt aC4 LT (nT ps.toList args R) W nG=some (.normal,R1,W1))(hk:W1.get l=some (.loop .ready none R nt ps aC4 bd))
 {x2:X}{R2:ai.Fr}{W2:AW}(h2:ga P (om P bad spec) false nt bd LT R1 (W1.put l (.loop .busy none R nt ps aC4 bd)) nG=some (x2,R2,W2))(Xq:W2.get l=some (.loop .busy none R nt ps aC4 bd)):
 om P bad spec (.func (.yield l) #[] #[]) args W=some (aou x2 l R nt ps aC4 bd W2):=by
 refine ac7 hl (by simpa using hn) ?_;unfold Pg;rw[show(#[]:Array ad).toList++args=args from rfl,h1];simp only[bJ,yn,hk,h2,Xq];unfold aou;cases x2<;>rfl
def wX{call:Callee}{i:Nat}{fs cs:Array ad}{obj:dI}{W W2:AW}{v:ad}(h:call (.func (.func i) fs cs) [.func (.yield W.next) #[] #[]] (W.add obj)=some (v,W2))
 {st:LoopState}{R:ai.Fr}{nt:Nat}{ps:Array Tmp}{aC4 bd:bU}(hg:W2.get W.next=some (.loop st none R nt ps aC4 bd))(hs:st≠ .busy):ll call (.func (.func i) fs cs) obj W=some (.normal,W2.kill W.next):=by
 unfold ll;simp only[h,hg]
def JB{call:Callee}{i:Nat}{fs cs:Array ad}{obj:dI}{W W2:AW}{v:ad}(h:call (.func (.func i) fs cs) [.func (.yield W.next) #[] #[]] (W.add obj)=some (v,W2))
 {x:X}{R:ai.Fr}{nt:Nat}{ps:Array Tmp}{aC4 bd:bU}(hg:W2.get W.next=some (.loop .done x.jump R nt ps aC4 bd)):ll call (.func (.func i) fs cs) obj W=some (x,W2.kill W.next):=by
 unfold ll;simp only[h,hg];cases x<;>rfl
end
end
end Go.Eng
namespace Go.Eng
open Go Go.RowKit Go.Sort
section
variable [ai]
end
end Go.Eng
namespace Go.Eng
open Go
section
variable [ai]
section
variable {P:ag} {W:AW} {α:Type}
def fJ(n:Int):List ad:=[.ae n]
def iE(n:Int):(fJ n).length=1:=rfl
def tj(n:Int):(fJ n).all one=true:=rfl
def Wh(n:Int)(pre post:List ad):IN .i64 (pre++(fJ n++post)) pre.length n:=by unfold IN;rw[pY (by omega)];simp[fJ]
def Qs:∀l:List Int,l.flatMap fJ=l.map (Value.int .i64)
 |[]=>rfl
 |a::l=>by rw[fy,lj,Qs l];rfl
def vT.ints{lo:Nat}{v:ad}{l:List Int}(h:vT lo W 1 fJ v l):gG W v l:=h.row iE Wh
def afs{ts:Array af}{z bytes:Nat}(hk:kZ P ts z bytes=true){b o n c:Nat}{cs new:List ad}(hc:aH W b=some cs)(hn:new=(cs.drop o).take (n*z))(hl:new.length=n*z)(h0:0<n)(h1:new.all one=true)
 {B m:Nat}{wT:List ad}(ho:aH W B=some wT)(Ns:wT.length=m*z)(hb:m+n<1099511627776)(lF:(2*(m+n)+192)*bytes<=281474976710656)(hm:0<m):
 dn P W ts (.slice (some ⟨B,0,none⟩) m m) (.slice (some ⟨b,o,none⟩) n c)=some (.slice (some ⟨W.next,0,none⟩) (m+n) (eG+z),W.add (.cells (wT++new))):=by
 obtain⟨t,e,zv,k1,k2,k3,k4,k5,k6⟩:=sP hk;have hr:pH W b o (n*z)=some new:=by rw[kh,hc];simp only;rw[an (by rw[<-hn];exact hl),hn]
 have hr1:cq W (.slice (some ⟨b,o,none⟩) n c) (n*z)=some new:=by unfold cq;simp only;rw[ap (by have:=qw h0 k5;omega),bM];exact hr
 have uK:pH W B 0 (m*z)=some wT:=by rw[kh,ho];simp only[jj];rw[oz (by omega),an Ns]
 have hr2:cq W (.slice (some ⟨B,0,none⟩) m m) (m*z)=some wT:=by unfold cq;simp only;rw[ap (by have:=qw hm k5;omega),bM];exact uK
 have hB:m<eG:=by unfold eG;omega
 have SZ:¬m=eG+z:=by unfold eG;omega
 unfold dn;simp only[k1,k2,k3,k4,bi,an (aC k5 (aC k6 (aC hb lF))),ap (show¬n=0 by omega),hr1,hr2,h1,ap SZ,an hB,ap (show¬m+n<=m by omega),AW.dX]
def Sc(l:List Int)(c:Nat)(W:AW):gG (W.add (.cells (l.map (Value.int .i64)))) (.slice (some ⟨W.next,0,none⟩) l.length c) l:=
 ⟨_,_,rfl,.inr ⟨W.next,0,_,rfl,by rw[AW.av];omega,bF,λi hi=>by unfold IN;rw[aJ,gK,jJ,bN hi];rfl⟩⟩
end
end
section
variable [ai]
def yK(l:List (Int×ad×Nat)):List MapEntry:=l.map λp=>{key:=.ae p.1,val:=p.2.1,born:=p.2.2}
def LM:List (Int×ad×Nat)->Int->Option ad
 |[],_=>none
 |p::l,k=>if k=p.1 then some p.2.1 else LM l k
def ub:List (Int×ad×Nat)->Int->Nat->Option (Nat×ad)
 |[],_,_=>none
 |p::l,k,i=>if k=p.1 then some (i,p.2.1)else ub l k (i+1)
def Of(l:List (Int×ad×Nat))(k:Int):∀i,Instr.findNow (.int .i64) (.ae k) (yK l) i=some (ub l k i):=by
 induction l with
 |nil=>intro i;rfl
 |cons p l ih=>
  intro i;show(match Instr.sameNow (.int .i64) (.ae k) (.ae p.1)with|some true=>some (some (i,p.2.1))|some false=>Instr.findNow (.int .i64) (.ae k) (yK l) (i+1)|none=>none)=_;unfold ub;by_cases h:k=p.1
  ·have:Instr.sameNow (.int .i64) (.ae k) (.ae p.1)=some true:=by simp[Instr.sameNow,h]
   rw[this,an h]
  ·have:Instr.sameNow (.int .i64) (.ae k) (.ae p.1)=some false:=by simp[Instr.sameNow,h]
   rw[this,ap h];exact ih (i+1)
def Bj(l:List (Int×ad×Nat))(k:Int):∀i,LM l k=(ub l k i).map (·.2):=by
 induction l with
 |nil=>intro i;rfl
 |cons p l ih=>
  intro i;unfold LM ub;by_cases h:k=p.1
  ·rw[an h,an h];rfl
  ·rw[ap h,ap h];exact ih (i+1)
def mJ(l:List (Int×ad×Nat)):List Int:=l.map (·.1)
def Sv{l:List (Int×ad×Nat)}{k:Int}(h:k∉mJ l):LM l k=none:=by
 induction l with
 |nil=>rfl
 |cons p l ih=>unfold mJ at h;rw[lj,eI,not_or]at h;unfold LM;rw[ap h.1];exact ih h.2
def Bc{k:Int}{v:ad}:∀{l:List (Int×ad×Nat)} {i j:Nat},(mJ l).Nodup->ub l k i=some (j,v)->i<=j/\(∃b,l[j-i]? =some (k,v,b)/\∀v' k',LM (l.set (j-i) (k,v',b)) k'=if k'=k then some v' else LM l k')/\
 (∀k',LM (l.eraseIdx (j-i)) k'=if k'=k then none else LM l k')/\(mJ (l.eraseIdx (j-i))).Nodup/\(l.eraseIdx (j-i)).length+1=l.length/\∀v' b,mJ (l.set (j-i) (k,v',b))=mJ l
 |[],i,j,_,h=>by cases h
 |p::l,i,j,hn,h=>by
  unfold ub at h;have Wa:p.1∉mJ l/\(mJ l).Nodup:=List.nodup_cons.1 hn;by_cases hk:k=p.1
  ·rw[an hk]at h;injection h with h;injection h with h1 h2;subst h1;rw[sk];refine⟨aQ _,⟨p.2.2,by rw[hk,<-h2];rfl,λv' k'=>?_⟩,λk'=>?_,Wa.2,rfl,λv' b=>by rw[Ij];simp[mJ,hk]⟩
   ·rw[Ij];unfold LM;rw[<-hk];by_cases CZ:k'=k
    ·rw[an CZ,an CZ]
    ·rw[ap CZ,ap CZ,ap CZ]
   ·show LM l k'=_;by_cases CZ:k'=k
    ·rw[an CZ,CZ,hk];exact Sv Wa.1
    ·rw[ap CZ];conv=>rhs;unfold LM
     rw[ap (λe=>CZ (e.trans hk.symm))]
  ·rw[ap hk]at h;obtain⟨h1,⟨b,h2,h3⟩,h4,h5,h6,h7⟩:=Bc Wa.2 h;have e:j-i=(j-(i+1))+1:=by omega
   rw[e];refine⟨by omega,⟨b,by rw[Dv];exact h2,λv' k'=>?_⟩,λk'=>?_,?_,?_,λv' b=>?_⟩
   ·rw[OW];unfold LM;by_cases hp:k'=p.1
    ·have:¬k'=k:=λx=>hk (x.symm.trans hp)
     rw[an hp,ap this,an hp]
    ·rw[ap hp,h3,ap hp]
   ·rw[EN];unfold LM;by_cases hp:k'=p.1
    ·have:¬k'=k:=λx=>hk (x.symm.trans hp)
     rw[an hp,ap this,an hp]
    ·rw[ap hp,h4,ap hp]
   ·rw[EN];refine List.nodup_cons.2 ⟨λhm=>Wa.1 ?_,h5⟩;unfold mJ at hm|-;obtain⟨x,hx,hxe⟩:=my.1 hm;exact my.2 ⟨x,List.mem_of_mem_eraseIdx hx,hxe⟩
   ·rw[EN,cQ,cQ,h6]
   ·rw[OW];show p.1::mJ _=p.1::mJ l;rw[h7]
def Bh{k:Int}:∀{l:List (Int×ad×Nat)} {i:Nat},ub l k i=none->k∉mJ l/\∀v b k',LM (l++[(k,v,b)]) k'=if k'=k then some v else LM l k'
 |[],i,_=>⟨by simp[mJ],λv b k'=>by simp[LM]⟩
 |p::l,i,h=>by
  unfold ub at h;by_cases hk:k=p.1
  ·rw[an hk]at h;cases h
  ·rw[ap hk]at h;obtain⟨h1,h2⟩:=Bh h;refine⟨?_,λv b k'=>?_⟩
   ·unfold mJ;rw[lj,eI,not_or];exact⟨hk,h1⟩
   ·rw[oG];unfold LM;by_cases hp:k'=p.1
    ·have:¬k'=k:=λx=>hk (x.symm.trans hp)
     rw[an hp,ap this,an hp]
    ·rw[ap hp,h2,ap hp]
def P0{α β:Type}(f:α->β):∀(l:List α) (i:Nat),(l.map f).eraseIdx i=(l.eraseIdx i).map f
 |[],_=>by simp
 |a::l,0=>rfl
 |a::l,i+1=>by rw[lj,EN,EN,lj,P0 f l i]
def xY(W:AW)(r:Nat)(m:Int->Option ad)(n:Nat):Prop:=∃l c,W.get r=some (.map (yK l) c)/\(mJ l).Nodup/\l.length=n/\∀k,LM l k=m k
section
variable {P:ag} {W:AW} {r:Nat} {m:Int->Option ad} {n:Nat} {t kt e:af}
def US(l:List (Int×ad×Nat)):fV (yK l)=true:=by unfold fV yK;rw[List.all_map,db];intro p _;rfl
def wN(hk:P.underlying kt=some (.int .i64))(empty:Bool)(k:Int):ww P empty kt (.ae k)=true:=by
 unfold ww;have:cH P (Instr.checkKey empty 10000 kt (.ae k))=some ():=by unfold Instr.checkKey;simp only[fh,fB hk,bJ];rfl
 rw[this];rfl
def sE(hk:P.underlying kt=some (.int .i64))(l:List (Int×ad×Nat))(k:Int):xq P kt (.ae k) (yK l)=some (ub l k 0):=by unfold xq WW;have hp:bL (.ae k)=true/\fV (yK l)=true:=⟨rfl,US l⟩;simp only[an hp,hk,Of]
def RU(h:xY W r m n)(ht:P.underlying t=some (.map kt e))(hk:P.underlying kt=some (.int .i64)){z:ad}(hz:kN P e=some z)(k:Int):uN P t (.map (some r)) (.ae k) false W=some ((m k).getD z,W):=by
 obtain⟨l,c,hg,hn,hl,hm⟩:=h;unfold uN oB;simp only[ht,hg,wN hk,bi,sE hk];rw[<-hm k,Bj l k 0];unfold zz;cases ub l k 0 with
 |none=>simp only[hz];rfl
 |some q=>rfl
def Ys(h:xY W r m n)(ht:P.underlying t=some (.map kt e))(hk:P.underlying kt=some (.int .i64)){z:ad}(hz:kN P e=some z)(k:Int):uN P t (.map (some r)) (.ae k) true W=some (.tuple #[(m k).getD z,.bool (m k).isSome],W):=by
 obtain⟨l,c,hg,hn,hl,hm⟩:=h;unfold uN oB;simp only[ht,hg,wN hk,bi,sE hk];rw[<-hm k,Bj l k 0];unfold zz;cases ub l k 0 with
 |none=>simp only[hz];rfl
 |some q=>rfl
def QV(h:xY W r m n)(ht:P.underlying t=some (.map kt e))(hk:P.underlying kt=some (.int .i64))(k:Int)(v:ad):∃es c,jI P t (.map (some r)) (.ae k) v W=some (aj,W.put r (.map es c))/\xY (W.put r (.map es c)) r (λx=>if x=k then some v else m x) (if(m k).isSome then n else n+1):=by
 obtain⟨l,c,hg,hn,hl,hm⟩:=h;have WQ:m k=(ub l k 0).map (·.2):=by rw[<-hm k,Bj l k 0]
 cases hf:ub l k 0 with
 |none=>
  obtain⟨h1,h2⟩:=Bh hf;rw[hf]at WQ;refine⟨yK (l++[(k,v,c)]),c+1,?_,l++[(k,v,c)],c+1,AW.aW _ _ _,?_,?_,λx=>by rw[h2,hm]⟩
  ·unfold jI jH;simp only[ht,hg,wN hk,bi,sE hk,hf,dA];unfold yK;rw[rI];rfl
  ·unfold mJ at h1 hn|-;rw[rI,Bo];refine⟨hn,by simp,λa ha b hb hab=>?_⟩;simp only[lj,mS,ko]at hb;subst hb;subst hab;exact h1 ha
  ·rw[WQ];simp[hl]
 |some q=>
  obtain⟨j,v0⟩:=q;obtain⟨_,⟨b,h2,h3⟩,-,-,-,h7⟩:=Bc hn hf;rw[xG]at h2 h3 h7;rw[hf]at WQ;refine⟨yK (l.set j (k,v,b)),c,?_,l.set j (k,v,b),c,AW.aW _ _ _,by rw[h7];exact hn,by rw[WQ];simp[hl],λx=>by rw[h3,hm]⟩;have he:(yK l)[j]? =some {key:=.ae k,val:=v0,born:=b}:=by unfold yK;rw[jJ,h2];rfl
  have hs:Instr.sameBits 10000 (.ae k) (.ae k)=true:=by unfold Instr.sameBits;simp
  have qk:bL (.ae k)=true:=rfl;unfold jI jH;simp only[ht,hg,wN hk,bi,sE hk,hf,dA,he,hs,qk,mY];unfold yK;rw[List.map_set]
def ac6(h:xY W r m n)(ht:P.underlying t=some (.map kt e))(hk:P.underlying kt=some (.int .i64))(ts:List af)(k:Int):∃es c,uz P W (t::ts).toArray (.map (some r)) (.ae k)=some (W.put r (.map es c))/\xY (W.put r (.map es c)) r (λx=>if x=k then none else m x) (if(m k).isSome then n-1 else n):=by
 obtain⟨l,c,hg,hn,hl,hm⟩:=h;have WQ:m k=(ub l k 0).map (·.2):=by rw[<-hm k,Bj l k 0]
 cases hf:ub l k 0 with
 |none=>
  obtain⟨h1,-⟩:=Bh hf;rw[hf]at WQ;refine⟨yK l,c,?_,l,c,AW.aW _ _ _,hn,by rw[WQ];simp[hl],λx=>?_⟩
  ·unfold uz;simp only[ht,hg,wN hk,bi,sE hk,hf]
  ·show LM l x=if x=k then none else m x
   by_cases hx:x=k
   ·rw[an hx,hx,Sv h1]
   ·rw[ap hx,hm]
 |some q=>obtain⟨j,v0⟩:=q;obtain⟨_,-,h4,h5,h6,-⟩:=Bc hn hf;rw[xG]at h4 h5 h6;rw[hf]at WQ;refine⟨yK (l.eraseIdx j),c,?_,l.eraseIdx j,c,AW.aW _ _ _,h5,by rw[WQ];simp;omega,λx=>by rw[h4,hm]⟩;unfold uz;simp only[ht,hg,wN hk,bi,sE hk,hf];unfold yK;rw[P0]
def PV:xY (W.add (.map [] 0)) W.next (λ_=>none) 0:=⟨[],0,AW.aI _ _,by simp[mJ],rfl,λk=>rfl⟩
def xY.keep{W':AW}(h:xY W r m n)(hg:W'.get r=W.get r):xY W' r m n:=by obtain⟨l,c,h1,h2⟩:=h;exact⟨l,c,hg.trans h1,h2⟩
end
end
end Go.Eng
namespace Go.Eng
open Go Go.RowKit Go.Sort
section
variable [ai]
def sS(zs:List Int)(i:Nat):List Int:=zs.take i++zs.drop (i+1)++[0]
def abG{zs:List Int}{i:Nat}(h:i<zs.length):(sS zs i).length=zs.length:=by unfold sS;simp only[cx,cX,px,cQ,qB];omega
def xE(W:AW)(args:List ad)(r:ad×AW):Prop:=∃b zs i,i<zs.length/\args=[.slice (some ⟨b,0,none⟩) zs.length (eG+1),.ae (i:Nat),.ae ((i:Int)+1)]/\W.get b=some (.cells (zs.map (Value.int .u32)))/\r=(.slice (some ⟨b,0,none⟩) (zs.length-1) (eG+1),W.put b (.cells ((sS zs i).map (Value.int .u32))))
def GG:∀{a b:List Int},a.map (Value.int .u32)=b.map (Value.int .u32)->a=b
 |[],[],_=>rfl
 |[],_::_,h=>by simp at h
 |_::_,[],h=>by simp at h
 |x::a,y::b,h=>by simp only[lj,List.cons.injEq,Value.int.injEq,uL]at h;rw[h.1,GG h.2]
def xE.one{W:AW}{r1 r2:ad×AW}{args:List ad}(h1:xE W args r1)(h2:xE W args r2):r1=r2:=by
 obtain⟨b,zs,i,_,rfl,g1,rfl⟩:=h1;obtain⟨b2,zs2,i2,_,e,g2,rfl⟩:=h2;simp only[List.cons.injEq,Value.slice.injEq,jd,Addr.mk.injEq,and_true,Value.int.injEq,uL]at e;obtain⟨⟨rfl,_⟩,e,_⟩:=e;obtain rfl:i=i2:=by omega
 rw[g1]at g2;simp only[jd,dI.cells.injEq]at g2;rw[GG g2]
def SR(F:Nat):Callee:=λf args W=>match f with
 |.func (.func g) fs cs=>(match Nat.beq g F&&(fs.isEmpty&&cs.isEmpty)with
  |true=>open Classical in if h:∃r,xE W args r then some (Classical.choose h)else none
  |false=>none)
 |_=>none
def afH{F:Nat}{W:AW}{r:ad×AW}{args:List ad}(h:xE W args r):SR F (.func (.func F) #[] #[]) args W=some r:=by unfold SR;have hx:∃r,xE W args r:=⟨r,h⟩;simp only[uC,Array.isEmpty_empty,fN,oF hx];rw[(xn hx).one h]
def ahU{P:ag}{ng:List Nat}{F:Nat}{fn:iC}{body:bU}(LK:P.funcs[F]? =some fn)(qN:(fn.name== "runtime.NumGoroutine")=false)(hb:fn.body=some body)
 (ahP:∀(blk off cap i:Nat) (zs:List Int) (w:ar),Holds (Value.int .u32) w blk off zs.toArray->zs.length<=cap->cap<=9223372036854775807->i<zs.length->
   Calls P F #[.slice (some ⟨blk,off,none⟩) zs.length cap,.ae (i:Nat),.ae ((i:Int)+1)] w λe w'=>e=.returned (.slice (some ⟨blk,off,none⟩) (zs.length-1) cap)/\∃n,w'=putRow (Value.int .u32) (Sort.ahead w n) blk off (sS zs i).toArray):cl P ng (SR F):=by
 intro f args W v W' h σ w f' cZ hW hG hf da;unfold SR at h;split at h;case h_2=>cases h
 rename_i g fs cs;split at h;case h_2=>cases h
 rename_i Ru;simp only[bA,fq,Au]at Ru;obtain⟨rfl,rfl,rfl⟩:=Ru;split at h;case isFalse=>cases h
 rename_i hx;injection h with h;have hs:=xn hx;rw[h]at hs;clear h hx;obtain⟨b,zs,i,hi,rfl,hgb,e⟩:=hs;simp only[DK]at e;obtain⟨rfl,rfl⟩:=e;obtain⟨Lo,yg,cV,ET,H4,sW,rfl⟩:=hf.mG;cases ET;obtain rfl:yg=#[]:=by have h1:yg.toList.length=0:=H4.1.symm;exact vE.1 (mw.1 h1)
 obtain rfl:cV=#[]:=by have h1:cV.toList.length=0:=sW.1.symm;exact vE.1 (mw.1 h1)
 obtain⟨v',rfl,hv⟩:∃v',cZ=[v',.ae (i:Nat),.ae ((i:Int)+1)]/\VR σ (.slice (some ⟨b,0,none⟩) zs.length (eG+1)) v':=by
  obtain⟨hl,hv⟩:=da;match cZ,hl with
  |[v',u1,u2],_=>have k1:=hv 1 _ _ rfl rfl;have k2:=hv 2 _ _ rfl rfl;cases k1;cases k2;exact⟨v',rfl,hv 0 _ _ rfl rfl⟩
 obtain⟨sg,CV,hg,rfl,rf⟩:∃(sg:zY) (CV:Nat),σ b=some sg/\v'=.slice (some ⟨sg.B,sg.s,none⟩) zs.length CV/\L4 sg 0 zs.length (eG+1) CV:=by
  have pF:0<zs.length:=by omega
  generalize hl:zs.length=l at hv pF;cases hv with
  |slice a l c c' g h hs hc=>exact⟨g,c',h,rfl,hc⟩
  |dO=>omega
 refine⟨fk LK qN hb _ w,?_⟩;have e1:(#[]:Array ad)++[Value.slice (some ⟨sg.B,sg.s,none⟩) zs.length CV,.ae (i:Nat),.ae ((i:Int)+1)].toArray++#[]=#[.slice (some ⟨sg.B,sg.s,none⟩) zs.length CV,.ae (i:Nat),.ae ((i:Int)+1)]:=by simp
 rw[e1];obtain⟨cc,t,fr0,k1,k0,k2,k3,k4⟩:=hW.obj b _ _ hgb hg;have nh:sg.s<sg.e:=by rw[eP]at k2;omega
 obtain rfl:=k0 nh;have VP:∀j,(hj:j<zs.length)->cc[sg.s+j]? =some (.int .u32 zs[j]):=λj hj=>by obtain⟨u,u1,u2⟩:=k4 j (.int .u32 zs[j]) (by rw[jJ,bN hj];rfl);cases u2;exact u1
 have hH:Holds (Value.int .u32) w sg.B sg.s zs.toArray:=λj hj=>by
  have hj':j<zs.length:=by simpa using hj
  refine⟨?_,(pA.ap1 (hW.obj b _ _ hgb hg) (λ_ hx=>by cases hx) nh rfl)⟩;unfold World.cell?;simp only[k1,VP j hj',vR];rw[getElem!_pos zs.toArray j hj];simp
 have HA:zs.length<=CV:=by rcases rf.inv with⟨h,_⟩|⟨_,_,_,h,_⟩<;>omega
 have hcm:CV<=9223372036854775807:=by have:=rf.max.2 (by omega);unfold maxLen at this;omega
 refine oV (show CallsIn Fence.wide 0 P g _ w _ from(uy (n:=0)).2 (ahP sg.B sg.s CV i zs w hH HA hcm hi)) ?_;rintro e w' ⟨rfl,n,rfl⟩;have SY:(sS zs i).length=zs.length:=abG hi;have ajO:∀B,B≠sg.B->(putRow (Value.int .u32) (Sort.ahead w n) sg.B sg.s (sS zs i).toArray).heap[B]? =w.heap[B]? :=λB hB=>by show(w.heap.modify sg.B _)[B]? =_;rw[Aj,ap (bc hB)]
 have sI:(putRow (Value.int .u32) (Sort.ahead w n) sg.B sg.s (sS zs i).toArray).heap[sg.B]? =some (.cells (putCells (Value.int .u32) sg.s (sS zs i).toArray cc) t (0,0)):=by show(w.heap.modify sg.B _)[sg.B]? =_;rw[Aj,an rfl,k1];rfl
 have hpc:∀i',(putCells (Value.int .u32) sg.s (sS zs i).toArray cc)[i']? =(cc[i']?).map λx=>if sg.s<=i'/\i'<sg.s+(sS zs i).toArray.size then Value.int .u32 (sS zs i).toArray[i'-sg.s]! else x:=λi'=>by unfold putCells;rw[Array.getElem?_mapIdx]
 rw[eP]at k2;obtain⟨r1,r2⟩:=hW.write (w':=putRow (Value.int .u32) (Sort.ahead w n) sg.B sg.s (sS zs i).toArray) (cV:=(sS zs i).map (Value.int .u32)) hgb hg (by show(w.heap.modify _ _).size=_;simp) rfl rfl rfl ajO k1 sI (by unfold putCells;simp)
  (λi' rq=>by
    rw[hpc];have:¬(sg.s<=i'/\i'<sg.s+(sS zs i).toArray.size):=by rw[xR,SY];omega
    simp only[this,cn];cases cc[i']? <;>rfl)
  (by rw[eP,SY];exact k2)
  (λj v hv=>by
    rw[jJ]at hv;have hj:j<(sS zs i).length:=by
     rcases qG j (sS zs i).length with h|h
     ·exact h
     ·rw[kF h]at hv;cases hv
    rw[bN hj]at hv;injection hv with hv;subst hv;refine⟨_,?_,.int _ _⟩;rw[hpc,VP j (by omega)];have:sg.s<=sg.s+j/\sg.s+j<sg.s+(sS zs i).toArray.size:=by rw[xR];omega
    simp only[this,mY,bi,dA,Ib];rw[getElem!_pos (sS zs i).toArray j (by simpa using hj)];simp)
 refine⟨_,rfl,σ,?_,r1,r2⟩;rcases rf.inv with⟨h,_⟩|⟨z,hz,hzz,hlc,Br⟩
 ·omega
 ·exact .slice ⟨b,0,none⟩ _ _ _ sg hg rfl (by rw[hzz];exact .open_ z CV hz (by omega) Br (rf.max.2 (by omega)))
end
end Go.Eng
namespace Go.Proofs.YtmaoneengdafhaaGreatDoor
open Go Go.Eng
def Ut:List Int:=[0,1,7,27,7,7,99,67,7,64,11,11,128]
def yp:List ad:=Ut.map (Value.int .i64)
def upF(n:Nat):Nat->List Nat:=Nat.rec (motive:=λ_=>Nat->List Nat) (λ_=>[]) (λ_ ih s=>s::ih (s+1)) n
def au0(l:List (Nat×Nat)):List Nat:=List.rec (motive:=λ_=>List Nat) [] (λp _ ih=>List.rec (motive:=λ_=>List Nat) ih (λa _ r=>a::r) (upF p.2 p.1)) l
def lkF(i:Nat)(l:List (Nat×List Nat)):List Nat:=List.rec (motive:=λ_=>List Nat) [] (λp _ ih=>Bool.rec (motive:=λ_=>List Nat) ih p.2 (Nat.beq p.1 i)) l
def zF(x:List (Nat×List Nat))(o:List Nat):List (Nat×List Nat):=List.rec (motive:=λ_=>List (Nat×List Nat)) [] (λi _ r=>(i,lkF i x)::r) o
abbrev TB:=T (List (Nat×List Nat))
def sn(k n:Nat)(l:List (Nat×Nat))(x:List (Nat×List Nat))(t:TB):TB:=T.set (some (zF x (List.rec (motive:=λ_=>List Nat) (upF n 0) (λ_ _ _=>au0 l) l))) (path k) t
def tab:TB:=sn 65644 0 [(0,4),(6,1),(9,5),(4,2),(7,2),(14,2)] [(4,[13,12]),(8,[13,12])]<|
 sn 557108 8 [] [(5,[1])]<|
 sn 557174 0 [(0,2),(3,1),(2,1),(4,4)] [(2,[3])]<|
 sn 557180 0 [(0,2),(3,1),(2,1),(4,4)] [(2,[3])]<|
 sn 573512 0 [(0,4),(5,5),(4,1),(10,2)] [(4,[9,8])]<|
 sn 577608 0 [(0,2),(3,2),(7,3),(2,1),(5,2),(10,3)] [(2,[9,4]),(5,[9])]<|
 sn 1597483 6 [] [(3,[1])]<|
 sn 1626289 0 [(0,4),(5,5),(11,1),(4,1),(10,1),(12,1)] [(4,[9,8])]<|
 sn 1700185 31 [] [(24,[16,13,10,4]),(25,[4])]<|
 sn 2130136 0 [(0,3),(4,2),(3,1),(6,2)] []<|
 sn 2142405 0 [(0,5),(6,2),(5,1),(8,3)] [(5,[7,6])]<|
 sn 2150610 0 [(0,6),(10,1),(6,4),(11,2)] []<|
 sn 2162906 0 [(0,2),(5,2),(10,2),(2,3),(7,3),(12,4)] [(2,[11,6]),(7,[11])]<|
 sn 2641981 5 [] [(2,[1])]<|
 sn 2662569 0 [(0,2),(3,5),(2,1),(8,2)] [(2,[7,5])]<|
 sn 2711837 22 [] [(15,[10,7,4,1]),(16,[1])]<|
 sn 3162136 4 [] [(2,[1])]<|
 sn 3187091 10 [] [(7,[3,1])]<|
 sn 3191058 0 [(0,7),(8,1),(7,1),(9,2)] [(7,[0])]<|
 sn 3203465 14 [] [(12,[9,6])]<|
 sn 3211520 0 [(0,8),(9,4),(8,1),(13,3)] [(8,[3,1]),(13,[3,1])]<|
 sn 3223951 19 [] [(16,[15,11])]<|
 sn 3699014 0 [(0,1),(2,2),(1,1),(4,3)] [(1,[2])]<|
 sn 3743975 0 [(0,12),(13,2),(16,1),(12,1),(15,1),(17,1)] [(12,[14,3,1])]<|
 sn 4227420 0 [(1,2),(4,1),(6,1),(0,1),(3,1),(5,1),(7,1)] [(0,[2])]<|
 sn 4764061 11 [] [(8,[3])]<|
 sn 5263427 5 [] [(2,[1])]<|
 sn 5292226 12 [] [(7,[5,3]),(9,[5])]<|
 sn 5800390 8 [] [(5,[4])]<|
 sn 5829100 0 [(0,5),(10,2),(5,5),(12,3)] []<|
 sn 5829177 15 [] [(13,[10,6])]<|
 sn 6311989 5 [] [(2,[1])]<|
 sn 6320555 7 [] [(4,[1])]<|
 sn 6345218 0 [(0,6),(7,3),(6,1),(10,3)] [(6,[8,3,1]),(10,[3,1])]<|
 sn 6357288 16 [] [(9,[7,5,3]),(11,[7,5]),(13,[7])]<|
 sn 6869754 13 [] [(10,[8,4])]<|
 sn 6885912 17 [] [(11,[1])]<|
 sn 7373428 8 [] [(6,[3])]<|
 sn 7405976 16 [] [(9,[7,5,3]),(11,[7,5]),(13,[7])]<|
 sn 7463625 30 [] [(24,[4])]<|
 sn 8438266 12 [] [(7,[5,3]),(9,[5])]<|
 sn 8491684 25 [] [(19,[4,0])]<|
 sn 8958634 0 [(0,4),(5,4),(4,1),(9,2)] []<|
 sn 9499393 15 [] [(9,[1])]<|
 sn 11055979 11 [] [(7,[4])]<|
 sn 11059842 12 [] [(7,[5,3]),(9,[5])]<|
 sn 13127778 5 [] [(2,[1])]<|
 sn 13652068 5 [] [(2,[1])]<|
 sn 16269433 4 [] [(2,[1])]<|.lf
def acV:List Int:=[1,10,100,1000,10000,100000,1000000,10000000,100000000,1000000000,10000000000,100000000000,1000000000000,10000000000000,100000000000000,1000000000000000,10000000000000000,100000000000000000,1000000000000000000,10000000000000000000]
def Pt:List ad:=acV.map (Value.int .u64)
def acd:List Int:=[0,1,28,2,29,14,24,3,30,22,20,15,25,17,4,8,31,27,13,23,21,19,16,7,26,12,18,6,11,5,10,9]
def Ow:List ad:=acd.map (Value.int .u8)
def ab5:List Int:=[0,1,56,2,57,49,28,3,61,58,42,50,38,29,17,4,62,47,59,36,45,43,51,22,53,39,33,30,24,18,12,5,63,55,48,27,60,41,37,16,46,35,44,21,52,32,23,11,54,26,40,15,34,20,31,10,25,14,19,9,13,8,7,6]
def OP:List ad:=ab5.map (Value.int .u8)
def lX:List (Nat×List ad):=[(0,yp),(1,Pt),(3,Ow),(4,OP)]
end Go.Proofs.YtmaoneengdafhaaGreatDoor
namespace Go.Eng
open Go
section
variable [ai]
section
variable {P:ag} {W:AW}
def Ld{t:af}{z:Nat}(hz:rB P t=some z)(h0:0<z){b o l h:Nat}{k:be}(h1:h<=l):
 ft P t (.slice (some ⟨b,o,none⟩) l (eG+z)) none (some (.int k (h:Int))) none W=some (.slice (some ⟨b,o,none⟩) h (eG+z),W):=by
 obtain⟨e,he,hz⟩:=sZ hz;have h2:((⟨b,o,none⟩:bg).add (0*z))=⟨b,o,none⟩:=by rw[dH];simp
 unfold ft nH;simp only[he,hz,fW,lY,qy,bi,uL,an h0,an h1,xG,h2]
end
end
section
variable [ai]
def ale(W:AW)(cs:List ad)(b:Nat):aH (W.add (.cells cs)) b=if b=W.next then some cs else aH W b:=by
 by_cases h:b=W.next
 ·subst h;rw[an rfl];exact bF
 ·rw[ap h];unfold aH;rw[W.aE _ (λe=>h e.symm)]
def alg(W:AW)(c:Nat)(cs:List ad)(b:Nat):aH (W.put c (.cells cs)) b=if b=c then some cs else aH W b:=by
 by_cases h:b=c
 ·subst h;rw[an rfl];exact uY _
 ·rw[ap h];exact Ak _ (λe=>h e.symm)
def akD(W:AW)(cs:List ad)(b:Nat):aU (W.add (.cells cs)) b=if b=W.next then some cs else aU W b:=by
 by_cases h:b=W.next
 ·subst h;rw[an rfl];exact df
 ·rw[ap h];unfold aU;rw[W.aE _ (λe=>h e.symm)]
def amm(W:AW)(c:Nat)(cs:List ad)(b:Nat):aU (W.put c (.cells cs)) b=if b=c then some cs else aU W b:=by
 by_cases h:b=c
 ·subst h;rw[an rfl];exact b8 _
 ·rw[ap h];exact bR _ (λe=>h e.symm)
def Zj(W:AW):Le W W=True:=eq_true (Le.refl W)
def ad9{W W':AW}(h:Le W W')(o:dI):Le W (W'.add o)=True:=eq_true (h.add o)
def aev{W W':AW}(h:Le W W'){b:Nat}(hb:W.next<=b)(o:dI):Le W (W'.put b o)=True:=eq_true (h.put hb o)
def agY(a:Option bg):one (.pointer a)=true:=aS rfl rfl
def ag9{W:AW}{b o:Nat}{x:Option bg}:eZ 1 (.pointer (some ⟨b,o,none⟩)) (.pointer x) W=(aU W b).bind λcs=>if o<cs.length then some (aj,W.put b (.cells (cs.set o (.pointer x))))else none:=qC rfl rfl
def Yx(cs vs:List ad):iG cs 0 vs=vs++cs.drop vs.length:=by unfold iG;rw[pd,jF,aJ]
def aiM(b:Bool):tn aj b=false:=aS (by unfold tn aj;rfl) rfl
def HX:=aC @ale (aC @alg (aC @akD (aC @amm (aC @Zj (aC @ad9 (aC @aev (aC @agY (aC @ag9 (aC @AW.av (aC @AW.bG (aC @iq (aC @Nat.le_add_right (aC @aQ (aC @Nat.add_eq_left (aC @Nat.left_eq_add (aC @Yx (aC @iB (aC @cn.{1} (aC @Nat.one_ne_zero (aC @p8 (aC @List.take_nil.{0} (aC @uL (aC @and_true (aC @aiM @ah))))))))))))))))))))))))
end
section
variable [ai]
section
variable {P:ag} {W:AW} {α:Type}
def E3{ts:Array af}{z bytes:Nat}(hk:kZ P ts z bytes=true){b o n c:Nat}{cs new:List ad}(hc:aH W b=some cs)(hn:new=(cs.drop o).take (n*z))(hl:new.length=n*z)(h0:0<n)(h1:new.all Eng.one=true)
 {a:bg}(hb:n<1099511627776)(lF:(2*n+192)*bytes<=281474976710656):
 dn P W ts (.slice (some a) 0 0) (.slice (some ⟨b,o,none⟩) n c)=some (.slice (some ⟨W.next,0,none⟩) n (eG+z),W.add (.cells new)):=by
 obtain⟨t,e,zv,k1,k2,k3,k4,k5,k6⟩:=sP hk;have hr:pH W b o (n*z)=some new:=by rw[kh,hc];simp only;rw[an (by rw[<-hn];exact hl),hn]
 have hr1:cq W (.slice (some ⟨b,o,none⟩) n c) (n*z)=some new:=by unfold cq;simp only;rw[ap (by have:=qw h0 k5;omega),bM];exact hr
 have hr2:cq W (.slice (some a) 0 0) (0*z)=some []:=by unfold cq;simp
 have hB:0<eG:=by unfold eG;omega
 have SZ:¬0=eG+z:=by unfold eG;omega
 unfold dn;simp only[k1,k2,k3,k4,bi,aJ,an (aC k5 (aC k6 (aC hb lF))),ap (show¬n=0 by omega),hr1,hr2,h1,ap SZ,an hB,ap (show¬n<=0 by omega),AW.dX,jF]
def wP{ts:Array af}{z bytes:Nat}(hk:kZ P ts z bytes=true){a a2:Option bg}{l c c2:Nat}(h:l<=c)(hb:l<1099511627776)(lF:(2*l+192)*bytes<=281474976710656):
 dn P W ts (.slice a l c) (.slice a2 0 c2)=some (.slice a l c,W):=by
 obtain⟨t,e,zv,k1,k2,k3,k4,k5,k6⟩:=sP hk;unfold dn;simp only[k1,k2,k3,k4,bi,gv,an (aC k5 (aC k6 (aC hb lF))),an h]
def D0{f:α->List ad}(h1:∀a,(f a).all one=true):∀l:List α,(l.flatMap f).all one=true
 |[]=>rfl
 |a::l=>by rw[fy,List.all_append,h1 a,D0 h1 l];rfl
def EL(lo:Nat)(W:AW)(z:Nat)(f:α->List ad)(v:ad)(l:List α):Prop:=
 (l=[]/\(v=.slice none 0 0\/∃B,v=.slice (some ⟨B,0,none⟩) 0 0))\/(l≠[]/\∃B c,lo<=B/\B<W.next/\v=.slice (some ⟨B,0,none⟩) l.length c/\(c=eG+z\/c=l.length)/\W.get B=some (.cells (l.flatMap f)))
def Rd(W:AW)(z:Nat)(f:α->List ad)(v:ad)(l:List α):Prop:=
 ∃a c,v=.slice a l.length c/\(l=[]\/∃b o cs,a=some ⟨b,o,none⟩/\b<W.next/\aH W b=some cs/\(cs.drop o).take (l.length*z)=l.flatMap f)
def EL.aqv(lo:Nat)(W:AW)(z:Nat)(f:α->List ad)(B:Nat):EL lo W z f (.slice (some ⟨B,0,none⟩) 0 0) []:=.inl ⟨rfl,.inr ⟨B,rfl⟩⟩
def EL.keep{lo z:Nat}{f:α->List ad}{v:ad}{l:List α}{W':AW}(h:EL lo W z f v l)(hn:W.next<=W'.next)(hg:∀b,lo<=b->b<W.next->W'.get b=W.get b):EL lo W' z f v l:=by
 rcases h with h|⟨h0,B,c,h1,h2,h3,hc,h4⟩
 ·exact .inl h
 ·exact .inr ⟨h0,B,c,h1,by omega,h3,hc,by rw[hg B h1 h2];exact h4⟩
def EL.low{lo Ig z:Nat}{f:α->List ad}{v:ad}{l:List α}(h:EL lo W z f v l)(hl:Ig<=lo):EL Ig W z f v l:=by
 rcases h with h|⟨h0,B,c,h1,h⟩
 ·exact .inl h
 ·exact .inr ⟨h0,B,c,by omega,h⟩
def vT.el{lo z:Nat}{f:α->List ad}{v:ad}{l:List α}(h:vT lo W z f v l):EL lo W z f v l:=by
 rcases h with⟨rfl,rfl⟩|⟨h0,B,h1,h2,h3,h4⟩
 ·exact .inl ⟨rfl,.inl rfl⟩
 ·exact .inr ⟨h0,B,_,h1,h2,h3,.inl rfl,h4⟩
def EL.slice{lo z:Nat}{f:α->List ad}{v:ad}{l:List α}(h:EL lo W z f v l):∃a c,v=.slice a l.length c:=by rcases h with⟨rfl,rfl|⟨B,rfl⟩⟩|⟨_,B,c,_,_,rfl,_⟩<;>exact⟨_,_,rfl⟩
def EL.row{lo z:Nat}{f:α->List ad}{v:ad}{l:List α}{at_:List ad->Nat->α->Prop}(hf:∀a,(f a).length=z)(h:EL lo W z f v l)(sI:∀a pre post,at_ (pre++(f a++post)) pre.length a):Row W z at_ v l:=by
 rcases h with⟨rfl,rfl|⟨B,rfl⟩⟩|⟨h0,B,c,i1,i2,rfl,hc,i4⟩
 ·exact⟨none,0,rfl,.inl rfl⟩
 ·exact⟨_,0,rfl,.inl rfl⟩
 ·refine⟨_,_,rfl,.inr ⟨B,0,_,rfl,i2,ao i4,λi hi=>?_⟩⟩;have e:l.flatMap f=(l.take i).flatMap f++(f l[i]++(l.drop (i+1)).flatMap f):=by rw[<-fy,<-rC hi,<-iS,vu]
  have e2:((l.take i).flatMap f).length=0+i*z:=by rw[bZ hf,cX];rw[pg (by omega),aJ]
  rw[e,<-e2];exact sI _ _ _
def EL.rd{lo z:Nat}{f:α->List ad}{v:ad}{l:List α}(hf:∀a,(f a).length=z)(h:EL lo W z f v l):Rd W z f v l:=by
 rcases h with⟨rfl,rfl|⟨B,rfl⟩⟩|⟨h0,B,c,i1,i2,rfl,hc,i4⟩
 ·exact⟨none,0,rfl,.inl rfl⟩
 ·exact⟨_,0,rfl,.inl rfl⟩
 ·exact⟨_,_,rfl,.inr ⟨B,0,_,rfl,i2,ao i4,by rw[jj,<-bZ hf l,cM]⟩⟩
def Rd.keep{z:Nat}{f:α->List ad}{v:ad}{l:List α}{W':AW}(h:Rd W z f v l)(aM:Le W W'):Rd W' z f v l:=by
 obtain⟨a,c,rfl,h⟩:=h;refine⟨a,c,rfl,?_⟩;rcases h with h|⟨b,o,cs,h1,h2,h3,h4⟩
 ·exact .inl h
 ·exact .inr ⟨b,o,cs,h1,ff h2 aM.next,by unfold aH at h3|-;rw[aM.get b h2];exact h3,h4⟩
section
variable {t:af} {z lo:Nat} {f:α->List ad} {v:ad} {l:List α} {kk:be} {k:Nat}
def Zv(hf:∀a,(f a).length=z)(l:List α)(k:Nat):(l.flatMap f).take (k*z)=(l.take k).flatMap f:=by
 rcases qG l.length k with h|h
 ·rw[oz (by rw[bZ hf];exact mB z (by omega)),oz (by omega)]
 ·have e:l.flatMap f=(l.take k).flatMap f++(l.drop k).flatMap f:=by rw[<-iS,vu]
  have e2:((l.take k).flatMap f).length=k*z:=by rw[bZ hf,cX,pg h]
  rw[e,<-e2,xN]
def XZ(hf:∀a,(f a).length=z)(l:List α)(k:Nat):(l.flatMap f).drop (k*z)=(l.drop k).flatMap f:=by
 rcases qG l.length k with h|h
 ·rw[xB (by rw[bZ hf];exact mB z (by omega)),xB (by omega)];rfl
 ·have e:l.flatMap f=(l.take k).flatMap f++(l.drop k).flatMap f:=by rw[<-iS,vu]
  have e2:((l.take k).flatMap f).length=k*z:=by rw[bZ hf,cX,pg h]
  rw[e,<-e2,xx]
def EL.to(hz:rB P t=some z)(h0:0<z)(hf:∀a,(f a).length=z)(h:EL lo W z f v l)(hk:k<=l.length)(hl:l.length<1099511627776):
 ∃v',(∀W':AW,ft P t v none (some (.int kk (k:Int))) none W'=some (v',W'))/\Rd W z f v' (l.take k):=by
 have dv:(l.take k).length=k:=by rw[cX];omega
 have hB:l.length<eG:=by unfold eG;omega
 rcases h with⟨rfl,rfl|⟨B,rfl⟩⟩|⟨h1,B,c,i1,i2,rfl,hc,i4⟩
 ·have:k=0:=by simpa using hk
  subst this;exact⟨_,λ_=>LW hz,none,0,rfl,.inl rfl⟩
 ·have:k=0:=by simpa using hk
  subst this;exact⟨_,λ_=>E6 hz (aQ _) (by unfold eG;omega),_,0,rfl,.inl rfl⟩
 ·have hr:l.take k=[]\/∃b o cs,(some ⟨B,0,none⟩:Option bg)=some ⟨b,o,none⟩/\b<W.next/\aH W b=some cs/\(cs.drop o).take ((l.take k).length*z)=(l.take k).flatMap f:=
   .inr ⟨B,0,_,rfl,i2,ao i4,by rw[jj,dv,Zv hf]⟩
  rcases hc with rfl|rfl
  ·exact⟨_,λ_=>Ld hz h0 hk,_,eG+z,by rw[dv],hr⟩
  ·exact⟨_,λ_=>E6 hz hk hB,_,l.length,by rw[dv],hr⟩
def GQ{t:af}{z:Nat}(hz:rB P t=some z)(h0:0<z){B l c k:Nat}{kk:be}(hk:k<=l)(hl:l<eG)(hc:c=eG+z\/c=l):
 ∃a c',(∀W:AW,ft P t (.slice (some ⟨B,0,none⟩) l c) (some (.int kk (k:Int))) none none W=some (.slice a (l-k) c',W))/\(k<l->a=some ⟨B,k*z,none⟩):=by
 obtain⟨e,he,hz⟩:=sZ hz;have h2:((⟨B,0,none⟩:bg).add (k*z))=⟨B,k*z,none⟩:=by rw[dH];simp
 unfold ft nH;rcases hc with rfl|rfl
 ·refine⟨some ⟨B,k*z,none⟩,eG+z,λW=>?_,λ_=>rfl⟩;simp only[he,hz,fW,lY,an hk,uL,an h0,aQ,bi,h2]
 ·have hb:¬(c=eG+z/\0<z):=λx=>by omega
  refine⟨some (if c=k then⟨B,0,none⟩else⟨B,k*z,none⟩),c-k,λW=>?_,λh=>by rw[bM]⟩;simp only[he,hz,fW,lY,an hk,ap hb,an (aC hl (aQ c)),h2]
def EL.from(hz:rB P t=some z)(h0:0<z)(hf:∀a,(f a).length=z)(h:EL lo W z f v l)(hk:k<=l.length)(hl:l.length<1099511627776):
 ∃v',(∀W':AW,ft P t v (some (.int kk (k:Int))) none none W'=some (v',W'))/\Rd W z f v' (l.drop k):=by
 have dv:(l.drop k).length=l.length-k:=by rw[px]
 have hB:l.length<eG:=by unfold eG;omega
 rcases h with⟨rfl,rfl|⟨B,rfl⟩⟩|⟨h1,B,c,i1,i2,rfl,hc,i4⟩
 ·have:k=0:=by simpa using hk
  subst this;refine⟨.slice none 0 0,λW'=>?_,none,0,rfl,.inl rfl⟩;obtain⟨e,he,hz⟩:=sZ hz;unfold ft nH;simp only[he,hz,fW,lY,aQ,mY,bi,xG]
 ·have:k=0:=by simpa using hk
  subst this;obtain⟨a,c',e1,-⟩:=GQ (P:=P) (B:=B) (kk:=kk) hz h0 (aQ 0) (by unfold eG;omega) (.inr rfl);exact⟨_,e1,a,c',rfl,.inl rfl⟩
 ·obtain⟨a,c',e1,e2⟩:=GQ (P:=P) (B:=B) (kk:=kk) hz h0 hk hB hc;refine⟨_,e1,a,c',by rw[dv],?_⟩;rcases qG k l.length with CZ|CZ
  ·refine .inr ⟨B,k*z,_,e2 CZ,i2,ao i4,?_⟩;rw[XZ hf,<-bZ hf,cM]
  ·exact .inl (xB CZ)
def EL.app{ts:Array af}{bytes:Nat}{v2:ad}{l2:List α}(hk:kZ P ts z bytes=true)(hf:∀a,(f a).length=z)(h1:∀a,(f a).all one=true)
 (h:EL lo W z f v l)(h2:Rd W z f v2 l2)(hb:l.length+l2.length<1099511627776)(lF:(2*(l.length+l2.length)+192)*bytes<=281474976710656)(y5:lo<=W.next):
 ∃v' W',dn P W ts v v2=some (v',W')/\EL lo W' z f v' (l++l2)/\W.next<=W'.next/\∀b,b<lo->W'.get b=W.get b:=by
 have Zd:0<z:=by obtain⟨t,e,zv,_,_,_,_,k5,_⟩:=sP hk;exact k5
 obtain⟨a,c,rfl,h2⟩:=h2;by_cases he:l2=[]
 ·subst he;rw[fu];have Kf:(2*l.length+192)*bytes<=281474976710656:=by simpa using lF
  rcases h with⟨rfl,rfl|⟨B,rfl⟩⟩|⟨HF,B,c',i1,i2,rfl,hc,i4⟩
  ·exact⟨_,_,wP hk (aQ _) (by simp at hb;omega) (by simpa using Kf),.inl ⟨rfl,.inl rfl⟩,aQ _,λ_ _=>rfl⟩
  ·exact⟨_,_,wP hk (aQ _) (by simp at hb;omega) (by simpa using Kf),.inl ⟨rfl,.inr ⟨B,rfl⟩⟩,aQ _,λ_ _=>rfl⟩
  ·exact⟨_,_,wP hk (by rcases hc with rfl|rfl<;>(try unfold eG)<;>omega) (by omega) Kf,.inr ⟨HF,B,c',i1,i2,rfl,hc,i4⟩,aQ _,λ_ _=>rfl⟩
 ·rcases h2 with h2|⟨b,o,cs,rfl,j1,j2,j3⟩
  ·exact absurd h2 he
  have VV:0<l2.length:=vP.2 he;have Vz:(l2.flatMap f).length=l2.length*z:=bZ hf l2;have ha:=D0 h1 l2;rcases h with⟨rfl,rfl|⟨B,rfl⟩⟩|⟨HF,B,c',i1,i2,rfl,hc,i4⟩
  ·refine⟨_,_,IA hk j2 j3.symm Vz VV ha (by simp at hb;omega) (by simpa using lF),.inr ⟨by simpa using he,W.next,_,y5,by rw[AW.av];omega,by simp,.inl rfl,by rw[AW.aI];simp⟩,by rw[AW.av];omega,λb hb=>AW.aE _ _ (by omega)⟩
  ·refine⟨_,_,E3 hk j2 j3.symm Vz VV ha (by simp at hb;omega) (by simpa using lF),.inr ⟨by simpa using he,W.next,_,y5,by rw[AW.av];omega,by simp,.inl rfl,by rw[AW.aI];simp⟩,by rw[AW.av];omega,λb hb=>AW.aE _ _ (by omega)⟩
  ·have pF:0<l.length:=vP.2 HF;rcases hc with rfl|rfl
   ·refine⟨_,_,Pw hk j2 j3.symm Vz VV ha i4 (bZ hf l) hb lF pF,.inr ⟨by simp[HF],W.next,_,y5,by rw[AW.av,AW.dr];omega,by rw[cx],.inl rfl,?_⟩,by rw[AW.av,AW.dr];omega,λb hb=>?_⟩
    ·have:=(W.kill B).aI (.cells (l.flatMap f++l2.flatMap f));rw[AW.dr]at this;rw[this,iS]
    ·rw[AW.aE _ _ (by rw[AW.dr];omega),AW.de _ (by omega)]
   ·refine⟨_,_,afs hk j2 j3.symm Vz VV ha (ao i4) (bZ hf l) hb lF pF,.inr ⟨by simp[HF],W.next,_,y5,by rw[AW.av];omega,by rw[cx],.inl rfl,by rw[AW.aI,iS]⟩,by rw[AW.av];omega,λb hb=>AW.aE _ _ (by omega)⟩
end
end
def Mb(v:ad):Prop:=(∃b l c,v=.slice (some ⟨b,0,none⟩) l c)\/∃l c,v=.slice none l c
def Mb.one{v:ad}(h:Mb v):one v=true:=by rcases h with⟨b,l,c,rfl⟩|⟨l,c,rfl⟩<;>rfl
def fE{α:Type}(W:AW)(z:Nat)(f:α->List ad)(v:ad)(l:List α)(bo:Option Nat):Prop:=
 (l=[]/\v=.slice none 0 0/\bo=none)\/(l≠[]/\∃B,bo=some B/\B<W.next/\v=.slice (some ⟨B,0,none⟩) l.length (eG+z)/\W.get B=some (.cells (l.flatMap f)))
def fE.gJ{α:Type}{W:AW}{z:Nat}{f:α->List ad}{v:ad}{l:List α}{bo:Option Nat}(h:fE W z f v l bo):vT 0 W z f v l:=by
 rcases h with⟨h1,h2,-⟩|⟨h0,B,-,h2,h3,h4⟩
 ·exact .inl ⟨h1,h2⟩
 ·exact .inr ⟨h0,B,qy _,h2,h3,h4⟩
def fE.keep{α:Type}{W W':AW}{z:Nat}{f:α->List ad}{v:ad}{l:List α}{bo:Option Nat}(h:fE W z f v l bo)(hn:W.next<=W'.next)(hg:∀B,bo=some B->W'.get B=W.get B):fE W' z f v l bo:=by
 rcases h with h|⟨h0,B,h1,h2,h3,h4⟩
 ·exact .inl h
 ·exact .inr ⟨h0,B,h1,by omega,h3,(hg B h1).trans h4⟩
def fE.lt{α:Type}{W:AW}{z:Nat}{f:α->List ad}{v:ad}{l:List α}{bo:Option Nat}(h:fE W z f v l bo){B:Nat}(hB:bo=some B):B<W.next:=by
 rcases h with⟨-,-,h⟩|⟨h0,B',h1,h2,-⟩
 ·rw[h]at hB;cases hB
 ·rw[h1]at hB;injection hB with hB;omega
def fE.push{α:Type}{P:ag}{W:AW}{ts:Array af}{z bytes:Nat}{f:α->List ad}{v:ad}{l:List α}{bo:Option Nat}{a:α}(hk:kZ P ts z bytes=true)(hf:∀a,(f a).length=z)(h1:∀a,(f a).all one=true)
 (h:fE W z f v l bo){b c:Nat}(hc:aH W b=some (f a))(hb:l.length+1<1099511627776)(lF:(2*(l.length+1)+192)*bytes<=281474976710656):
 ∃v' W',dn P W ts v (.slice (some ⟨b,0,none⟩) 1 c)=some (v',W')/\fE W' z f v' (l++[a]) (some W.next)/\W'.next=W.next+1/\∀b,b<W.next->bo≠some b->W'.get b=W.get b:=by
 have hn:f a=((f a).drop 0).take (1*z):=by rw[jj,kr,<-hf a,cM]
 have hl:(f a).length=1*z:=by rw[hf];omega
 rcases h with⟨rfl,rfl,rfl⟩|⟨h0,B,rfl,i2,rfl,i4⟩
 ·refine⟨_,_,IA (b:=b) (o:=0) (c:=c) hk hc hn hl (by omega) (h1 a) (by omega) (by simpa using lF),.inr ⟨by simp,W.next,rfl,by rw[AW.av];omega,by simp,by rw[AW.aI];simp⟩,AW.av _ _,λd hd _=>AW.aE _ _ (by omega)⟩
 ·have pF:0<l.length:=vP.2 h0;refine⟨_,_,Pw (b:=b) (o:=0) (c:=c) hk hc hn hl (by omega) (h1 a) i4 (bZ hf l) (by omega) lF pF,.inr ⟨by simp,W.next,rfl,by rw[AW.av,AW.dr];omega,by simp,?_⟩,by rw[AW.av,AW.dr],λd hd fp=>?_⟩
  ·have:=(W.kill B).aI (.cells (l.flatMap f++f a));rw[AW.dr]at this;rw[this,iS];simp
  ·rw[AW.aE _ _ (by rw[AW.dr];omega),AW.de _ (λe=>fp (by rw[e]))]
section
variable {P:ag} {W:AW} {α:Type} {t:af} {z lo:Nat} {f:α->List ad} {v:ad} {l:List α} {kk:be} {k:Nat}
end
def afJ{W W':AW}(v:ad):gc W (v,W')=(v,W')\/(gc W (v,W')=(v,W)/\Le W W'/\bL v=true):=by
 unfold gc;split
 ·rename_i h;have:=h.1;simp only[bA]at this;exact .inr ⟨rfl,h.2,this.1⟩
 ·exact .inl rfl
def GJ{o t:Option (ad×AW)}{W:AW}{Q:ad->AW->Prop}(h:Ok t λr=>Q r.1 r.2)(Nr:∀{r},t=some r->o=some (gc W r))(hq:∀v W',Q v W'->Le W W'->bL v=true->Q v W):∃v W',o=some (v,W')/\Q v W':=by
 obtain⟨⟨v,W'⟩,h1,h2⟩:=h;rcases afJ (W:=W) (W':=W') v with hg|⟨hg,aM,hp⟩
 ·exact⟨v,W',by rw[Nr h1,hg],h2⟩
 ·exact⟨v,W,by rw[Nr h1,hg],hq v W' h2 aM hp⟩
def adC{P:ag}{W:AW}{t:af}{x y u:ad}:iX P [(x,some t),(y,none),(u,none)] W=(jx P t x W).bind λr=>some (.tuple #[r.1,y,u],W):=by unfold iX jx;simp only[wv];cases mh P W t x<;>rfl
end
end Go.Eng
namespace Go.Proofs.YtmaoneengdafhaaGreatDoor
structure RunT where
 row:Int
 fi:Int
 ma:Int
def t8(r:Int):Int->List Bool->Int->Int->List RunT
 |_,[],c,m=>if 0<m then [⟨r,c,m⟩]else []
 |s,true::l,c,m=>t8 r (s+1) l c (m+1)
 |s,false::l,c,m=>(if 0<m then [⟨r,c,m⟩]else [])++t8 r (s+1) l (s+1) 0
def BG(n:Int):Int:=if n=1 then 1 else 0
def Dm:List RunT->Int
 |[]=>0
 |x::l=>BG x.ma+Dm l
def BD:Int->List Bool->Int
 |m,[]=>BG m
 |m,true::l=>BD (m+1) l
 |m,false::l=>BG m+BD 0 l
def Iz(a b:List RunT):Dm (a++b)=Dm a+Dm b:=by
 induction a with
 |nil=>simp[Dm]
 |cons x l ih=>simp only[oG,Dm,ih];omega
def Xg{r c m:Int}(h:0<=m):Dm (if 0<m then [⟨r,c,m⟩]else [])=BG m:=by
 by_cases h2:0<m
 ·rw[an h2];simp only[Dm];omega
 ·rw[ap h2,show m=0 by omega];rfl
def OZ{r:Int}:∀(l:List Bool) (s c m:Int),0<=m->Dm (t8 r s l c m)=BD m l
 |[],s,c,m,h=>by simp only[t8,BD];exact Xg h
 |true::l,s,c,m,h=>by simp only[t8,BD];exact OZ l _ _ _ (by omega)
 |false::l,s,c,m,h=>by simp only[t8,BD,Iz,Xg h,OZ l _ _ 0 (by omega)]
def Bn:∀(a c:List Bool) (m:Int),BD m (a++false::c)=BD m a+BD 0 c
 |[],c,m=>by simp only[jF,BD]
 |true::a,c,m=>by simp only[oG,BD];exact Bn a c _
 |false::a,c,m=>by simp only[oG,BD,Bn a c];omega
def In:∀(k:Nat) (l:List Bool) (m:Int),BD m (List.replicate k true++l)=BD (m+k) l
 |0,l,m=>by simp
 |k+1,l,m=>by rw[uv,oG];simp only[BD];rw[In k l (m+1)];congr 1;omega
def ahu(a:List Bool):Prop:=a=[]\/∃b,a=b++[false]
def af8(c:List Bool):Prop:=c=[]\/∃b,c=false::b
def Wr{a:List Bool}(h:ahu a)(x:List Bool):BD 0 (a++x)=BD 0 a+BD 0 x:=by
 rcases h with h|⟨b,h⟩
 ·subst h;simp[BD,BG]
 ·subst h;rw[iR,List.singleton_append,Bn,Bn];simp[BD,BG]
def VI{c:List Bool}(h:af8 c)(m:Int):BD m c=BG m+BD 0 c:=by
 rcases h with h|⟨b,h⟩
 ·subst h;simp[BD,BG]
 ·subst h;simp[BD,BG]
def agk{a c:List Bool}(ha:ahu a)(hc:af8 c)(m:Nat):BD 0 (a++(List.replicate m true++c))=BD 0 a+BG m+BD 0 c:=by rw[Wr ha,In,VI hc];simp only[Int.zero_add];omega
def afT{a c:List Bool}(ha:ahu a)(hc:af8 c)(b n d:Nat)(hn:0<n):BD 0 (a++(List.replicate b true++(List.replicate n false++(List.replicate d true++c))))=BD 0 a+BG b+BG d+BD 0 c:=by
 rw[Wr ha,In];have h:∀(n:Nat) (x:List Bool) (m:Int),0<n->BD m (List.replicate n false++x)=BG m+BD 0 x:=by
  intro n;induction n with
  |zero=>intro x m h;omega
  |succ n ih=>
   intro x m _;rw[uv,oG];simp only[BD];by_cases h0:0<n
   ·rw[ih x 0 h0];simp[BG]
   ·rw[show n=0 by omega];simp
 rw[h n _ _ hn,In,VI hc];simp only[Int.zero_add];omega
def Kr{r:Int}:∀(l:List Bool) (s:Int) (m:Nat) (x:RunT),x∈t8 r s l (s-m) m->∃(a c:List Bool) (k:Nat),0<k/\x.ma=k/\x.row=r/\x.fi=s-m+a.length/\ahu a/\af8 c/\List.replicate m true++l=a++(List.replicate k true++c)
 |[],s,m,x,h=>by
  simp only[t8]at h;by_cases h2:(0:Int)<m
  ·rw[an h2]at h;have:=ko.mp h;subst this;exact⟨[],[],m,by omega,rfl,rfl,by simp,Or.inl rfl,Or.inl rfl,by simp⟩
  ·rw[ap h2]at h;cases h
 |true::l,s,m,x,h=>by
  simp only[t8]at h;have h2:x∈t8 r (s+1) l (s+1-((m+1:Nat):Int)) ((m+1:Nat):Int):=by rw[show s+1-((m+1:Nat):Int)=s-m by omega,show((m+1:Nat):Int)=(m:Int)+1 by omega];exact h
  obtain⟨a,c,k,e1,e2,e3,e4,e5,e6,e7⟩:=Kr l (s+1) (m+1) x h2;refine⟨a,c,k,e1,e2,e3,by omega,e5,e6,?_⟩;rw[<-e7,List.replicate_succ',iR];rfl
 |false::l,s,m,x,h=>by
  simp only[t8]at h;rcases lH.mp h with h|h
  ·by_cases h2:(0:Int)<m
   ·rw[an h2]at h;have:=ko.mp h;subst this;exact⟨[],false::l,m,by omega,rfl,rfl,by simp,Or.inl rfl,Or.inr ⟨l,rfl⟩,by simp⟩
   ·rw[ap h2]at h;cases h
  ·have h2:x∈t8 r (s+1) l (s+1-((0:Nat):Int)) ((0:Nat):Int):=by rw[show s+1-((0:Nat):Int)=s+1 by omega];exact h
   obtain⟨a,c,k,e1,e2,e3,e4,e5,e6,e7⟩:=Kr l (s+1) 0 x h2;simp only[List.replicate_zero,jF]at e7;refine⟨List.replicate m true++false::a,c,k,e1,e2,e3,?_,?_,e6,?_⟩
   ·rw[cx,mq,cQ,e4];omega
   ·rcases e5 with e5|⟨b,e5⟩
    ·subst e5;exact Or.inr ⟨List.replicate m true,rfl⟩
    ·subst e5;exact Or.inr ⟨List.replicate m true++false::b,by simp⟩
   ·rw[e7];simp
def uU(l:List Bool)(f m:Nat):List Bool:=(l.drop f).take m
def HU(l:List Bool)(i n:Nat):List Bool:=l.mapIdx λj b=>if i<=j/\j<i+n then false else b
def rN(l:List Bool):Nat->Nat->List Nat->List RunT
 |_,_,[]=>[]
 |r,f,m::t=>t8 r f (uU l f m) f 0++rN l (r+1) (f+m) t
def Ic(l:List Bool)(i n:Nat):(HU l i n).length=l.length:=by simp[HU]
def AF(l:List Bool)(i n j:Nat):(HU l i n)[j]? =(l[j]?).map λb=>if i<=j/\j<i+n then false else b:=by simp[HU]
def DM(l:List Bool)(f m j:Nat):(uU l f m)[j]? =if j<m then l[f+j]? else none:=by
 unfold uU;rw[mm];split
 ·rw[p9]
 ·rfl
def VL{l:List Bool}{f m i n:Nat}(h:f+m<=i\/i+n<=f):uU (HU l i n) f m=uU l f m:=by
 apply oJ;intro j;rw[DM,DM];split
 ·rw[AF];have e:¬(i<=f+j/\f+j<i+n):=by omega
  simp only[ap e];cases l[f+j]? <;>rfl
 ·rfl
def akJ(l:List Bool)(f m j n:Nat):uU (HU l (f+j) n) f m=HU (uU l f m) j n:=by
 apply oJ;intro k;rw[DM,AF,AF,DM];split
 ·congr 1;funext b;by_cases h:j<=k/\k<j+n
  ·rw[an h,kJ]
  ·rw[ap h,bM]
 ·rfl
def Tg(l:List Bool)(f m:Nat):(uU l f m).length<=m:=by unfold uU;rw[cX];exact Nat.min_le_left _ _
def afG(a b:List Bool)(i n:Nat):HU (a++b) i n=HU a i n++b.mapIdx λj x=>if i<=a.length+j/\a.length+j<i+n then false else x:=by unfold HU;rw[List.mapIdx_append];congr 1;congr 1;funext j x;rw[Nat.add_comm j]
def Ac{l:List Bool}{f:Nat->Bool->Bool}(h:∀j b,j<l.length->f j b=b):l.mapIdx f=l:=by
 apply oJ;intro j;rw[List.getElem?_mapIdx];by_cases hj:j<l.length
 ·rw[bN hj];simp[h j _ hj]
 ·rw[kF (by omega)];rfl
def OH{l:List Bool}{f:Nat->Bool->Bool}(h:∀j b,j<l.length->f j b=false):l.mapIdx f=List.replicate l.length false:=by
 apply oJ;intro j;rw[List.getElem?_mapIdx,List.getElem?_replicate];by_cases hj:j<l.length
 ·rw[bN hj,an hj];simp[h j _ hj]
 ·rw[kF (by omega),ap hj];rfl
def agS{a c:List Bool}{K k n:Nat}(h:k+n<=K):HU (a++(List.replicate K true++c)) (a.length+k) n=a++(List.replicate k true++(List.replicate n false++(List.replicate (K-n-k) true++c))):=by
 have e:List.replicate K true=List.replicate k true++(List.replicate n true++List.replicate (K-n-k) true):=by rw[List.replicate_append_replicate,List.replicate_append_replicate];congr 1;omega
 rw[e,afG];have e1:HU a (a.length+k) n=a:=Ac λj b hj=>bM
 rw[e1];congr 1;rw[iR,iR,List.mapIdx_append,List.mapIdx_append];rw[Ac (l:=List.replicate k true) λj b hj=>ap (by rw[mq]at hj;omega)];rw[OH (l:=List.replicate n true) λj b hj=>an (by rw[mq]at *;omega)];rw[Ac (l:=List.replicate (K-n-k) true++c) λj b hj=>ap (by rw[mq,mq];omega),mq]
def Gx{l:List Bool}{i n:Nat}:∀(ms:List Nat) (r f:Nat),i+n<=f->rN (HU l i n) r f ms=rN l r f ms
 |[],r,f,h=>rfl
 |m::t,r,f,h=>by simp only[rN];rw[VL (Or.inr h),Gx t _ _ (by omega)]
def WT{l:List Bool}:∀(ms:List Nat) (r f:Nat) (x:RunT),x∈rN l r f ms->(f:Int)<=x.fi/\0<x.ma
 |[],r,f,x,h=>by cases h
 |m::t,r,f,x,h=>by
  simp only[rN]at h;rcases lH.mp h with h|h
  ·obtain⟨a,c,k,e1,e2,e3,e4,-,-,-⟩:=Kr (uU l f m) f 0 x (by rw[show(f:Int)-((0:Nat):Int)=f by omega];exact h);omega
  ·have:=WT t _ _ x h;omega
def JZ{l:List Bool}{n:Nat}(hn:0<n):∀(ms:List Nat) (r f:Nat) (x:RunT) (k i:Nat),x∈rN l r f ms->(k:Int)+n<=x.ma->(i:Int)=x.fi+k->
 Dm (rN (HU l i n) r f ms)=Dm (rN l r f ms)+(BG k+BG (x.ma-n-k)-BG x.ma)
 |[],r,f,x,k,i,h,_,_=>by cases h
 |m::t,r,f,x,k,i,h,hk,hi=>by
  simp only[rN]at h|-;rw[Iz,Iz];rcases lH.mp h with h|h
  ·obtain⟨a,c,K,e1,e2,e3,e4,e5,e6,e7⟩:=Kr (uU l f m) f 0 x (by rw[show(f:Int)-((0:Nat):Int)=f by omega];exact h);simp only[List.replicate_zero,jF]at e7;have hl:=Tg l f m;rw[e7,cx,cx,mq]at hl;have ei:i=f+(a.length+k):=by omega
   rw[Gx t _ _ (by omega),OZ _ _ _ _ (sy _),OZ _ _ _ _ (sy _),ei,akJ,e7,agS (by omega),agk e5 e6,afT e5 e6 _ _ _ hn,e2];rw[show((K-n-k:Nat):Int)=(K:Int)-n-k by omega];omega
  ·have y5:=WT t _ _ x h;rw[VL (Or.inl (by omega)),JZ hn t _ _ x k i h hk hi];omega
end Go.Proofs.YtmaoneengdafhaaGreatDoor
namespace Go.Eng
open Go
section
variable [ai]
section
variable {P:ag} {W:AW} {r:Nat} {m:Int->Option ad} {n:Nat} {t kt e:af}
def F3(l:List (Int×ad×Nat)):List MapEntry:=l.map λp=>{key:=.int .u32 p.1,val:=p.2.1,born:=p.2.2}
def Ob(l:List (Int×ad×Nat))(k:Int):∀i,Instr.findNow (.int .u32) (.int .u32 k) (F3 l) i=some (ub l k i):=by
 induction l with
 |nil=>intro i;rfl
 |cons p l ih=>
  intro i;show(match Instr.sameNow (.int .u32) (.int .u32 k) (.int .u32 p.1)with|some true=>some (some (i,p.2.1))|some false=>Instr.findNow (.int .u32) (.int .u32 k) (F3 l) (i+1)|none=>none)=_;unfold ub;by_cases h:k=p.1
  ·have:Instr.sameNow (.int .u32) (.int .u32 k) (.int .u32 p.1)=some true:=by simp[Instr.sameNow,h]
   rw[this,an h]
  ·have:Instr.sameNow (.int .u32) (.int .u32 k) (.int .u32 p.1)=some false:=by simp[Instr.sameNow,h]
   rw[this,ap h];exact ih (i+1)
def adk(W:AW)(r:Nat)(m:Int->Option ad)(n:Nat):Prop:=∃l c,W.get r=some (.map (F3 l) c)/\(mJ l).Nodup/\l.length=n/\∀k,LM l k=m k
def Ul(l:List (Int×ad×Nat)):fV (F3 l)=true:=by unfold fV F3;rw[List.all_map,db];intro p _;rfl
def KG(hk:P.underlying kt=some (.int .u32))(empty:Bool)(k:Int):ww P empty kt (.int .u32 k)=true:=by
 unfold ww;have:cH P (Instr.checkKey empty 10000 kt (.int .u32 k))=some ():=by unfold Instr.checkKey;simp only[fh,fB hk,bJ];rfl
 rw[this];rfl
def E0(hk:P.underlying kt=some (.int .u32))(l:List (Int×ad×Nat))(k:Int):xq P kt (.int .u32 k) (F3 l)=some (ub l k 0):=by unfold xq WW;have hp:bL (.int .u32 k)=true/\fV (F3 l)=true:=⟨rfl,Ul l⟩;simp only[an hp,hk,Ob]
def aec(h:adk W r m n)(ht:P.underlying t=some (.map kt e))(hk:P.underlying kt=some (.int .u32)){z:ad}(hz:kN P e=some z)(k:Int):uN P t (.map (some r)) (.int .u32 k) false W=some ((m k).getD z,W):=by
 obtain⟨l,c,hg,hn,hl,hm⟩:=h;unfold uN oB;simp only[ht,hg,KG hk,bi,E0 hk];rw[<-hm k,Bj l k 0];unfold zz;cases ub l k 0 with
 |none=>simp only[hz];rfl
 |some q=>rfl
def aaD(h:adk W r m n)(ht:P.underlying t=some (.map kt e))(hk:P.underlying kt=some (.int .u32))(k:Int)(v:ad):∃es c,jI P t (.map (some r)) (.int .u32 k) v W=some (aj,W.put r (.map es c))/\adk (W.put r (.map es c)) r (λx=>if x=k then some v else m x) (if(m k).isSome then n else n+1):=by
 obtain⟨l,c,hg,hn,hl,hm⟩:=h;have WQ:m k=(ub l k 0).map (·.2):=by rw[<-hm k,Bj l k 0]
 cases hf:ub l k 0 with
 |none=>
  obtain⟨h1,h2⟩:=Bh hf;rw[hf]at WQ;refine⟨F3 (l++[(k,v,c)]),c+1,?_,l++[(k,v,c)],c+1,AW.aW _ _ _,?_,?_,λx=>by rw[h2,hm]⟩
  ·unfold jI jH;simp only[ht,hg,KG hk,bi,E0 hk,hf,dA];unfold F3;rw[rI];rfl
  ·unfold mJ at h1 hn|-;rw[rI,Bo];refine⟨hn,by simp,λa ha b hb hab=>?_⟩;simp only[lj,mS,ko]at hb;subst hb;subst hab;exact h1 ha
  ·rw[WQ];simp[hl]
 |some q=>
  obtain⟨j,v0⟩:=q;obtain⟨_,⟨b,h2,h3⟩,-,-,-,h7⟩:=Bc hn hf;rw[xG]at h2 h3 h7;rw[hf]at WQ;refine⟨F3 (l.set j (k,v,b)),c,?_,l.set j (k,v,b),c,AW.aW _ _ _,by rw[h7];exact hn,by rw[WQ];simp[hl],λx=>by rw[h3,hm]⟩;have he:(F3 l)[j]? =some {key:=.int .u32 k,val:=v0,born:=b}:=by unfold F3;rw[jJ,h2];rfl
  have hs:Instr.sameBits 10000 (.int .u32 k) (.int .u32 k)=true:=by unfold Instr.sameBits;simp
  have qk:bL (.int .u32 k)=true:=rfl;unfold jI jH;simp only[ht,hg,KG hk,bi,E0 hk,hf,dA,he,hs,qk,mY];unfold F3;rw[List.map_set]
def acY:adk (W.add (.map [] 0)) W.next (λ_=>none) 0:=⟨[],0,AW.aI _ _,by simp[mJ],rfl,λk=>rfl⟩
end
end
end Go.Eng
namespace Go.Eng
open Go Go.RowKit
section
variable [ai]
def abu(P:ag)(bE:Nat):Nat->List wi->Bool
 |off,[]=>off==bE
 |off,f::fs=>f.offset==off&&abu P bE (off+P.cellsOf f.type) fs
def Yg(P:ag):Nat->af->Bool
 |0,_=>false
 |n+1,t=>match P.underlying t with
  |some .bool=>true
  |some (.int _)=>true
  |some .string=>true
  |some (.struct fs)=>abu P (P.cellsOf t) 0 fs.toList&&fs.toList.all λf=>Yg P n f.type
  |some (.slice e)=>decide (0<P.cellsOf e)&&Yg P n e
  |_=>false
def En(g:af->List ad->Prop):List af->List ad->Prop
 |[],cs=>cs=[]
 |t::ts,cs=>∃c1 c2,cs=c1++c2/\g t c1/\En g ts c2
def En.imp{g g':af->List ad->Prop}(h:∀t cs,g t cs->g' t cs):∀{ts:List af} {cs:List ad},En g ts cs->En g' ts cs
 |[],_,hc=>hc
 |_::_,_,⟨c1,c2,e,h1,h2⟩=>⟨c1,c2,e,h _ _ h1,En.imp h h2⟩
def DR(P:ag)(W:AW):Nat->af->List ad->Prop
 |0,_,_=>False
 |n+1,t,cs=>match P.underlying t with
  |some .bool=>∃b,cs=[.bool b]
  |some (.int k)=>∃m,cs=[.int k m]/\k.min<=m/\m<=k.max
  |some .string=>∃s:ByteArray,cs=[.string s]/\s.size<9223372036854775808
  |some (.struct fs)=>En (DR P W n) (fs.toList.map (·.type)) cs
  |some (.slice e)=>∃a len cap,cs=[.slice a len cap]/\len<=cap/\cap<eG/\(a=none\/∃b,a=some ⟨b,0,none⟩)/\(len=0\/∃(b:Nat) (l:List (List ad)),a=some ⟨b,0,none⟩/\b<W.next/\aH W b=some l.flatten/\l.length=len/\∀c∈l,c.length=P.cellsOf e/\DR P W n e c)
  |_=>False
def DR.mono{P:ag}{W W':AW}(aM:Le W W'):∀{n:Nat} {t:af} {cs:List ad},DR P W n t cs->DR P W' n t cs:=by
 intro n;induction n with
 |zero=>intro t cs h;exact h.elim
 |succ n ih=>
  intro t cs h;unfold DR at h|-;split at h
  ·exact h
  ·exact h
  ·exact h
  ·exact En.imp (λt cs h=>ih h) h
  ·obtain⟨a,len,cap,e1,e2,e3,e3',h⟩:=h;refine⟨a,len,cap,e1,e2,e3,e3',?_⟩;rcases h with h|⟨b,l,e4,e5,e6,e7,h⟩
   ·exact .inl h
   ·exact .inr ⟨b,l,e4,ff e5 aM.next,(aM.aH e5).trans e6,e7,λc hc=>⟨(h c hc).1,ih (h c hc).2⟩⟩
  ·exact h
structure np (σ:dz) (W:AW) (w:ar):Prop where
 rel:bI σ W w.heap
 ro:MR σ W
 some_:∃b g,σ b=some g
def np.add{σ:dz}{W:AW}{w:ar}(h:np σ W w){B s:Nat}{cs:List ad}{c:Array ad}{t:af}{fr:Nat×Nat}(hB:w.heap[B]? =some (.cells c t fr))
 (hc:∀(i:Nat) (v:ad),cs[i]? =some v->∃v',c[s+i]? =some v'/\VR σ v v'):
 np (cu σ W.next ⟨B,s,s+cs.length⟩) (W.add (.ro cs)) w/\Sub σ (cu σ W.next ⟨B,s,s+cs.length⟩):=by
 have ET:=h.rel.fresh;have hs:Sub σ (cu σ W.next ⟨B,s,s+cs.length⟩):=dR ET;have lA:B<w.heap.size:=(eV.1 hB).1;have fp:∀{x:Nat},x≠W.next->(W.add (.ro cs)).get x=W.get x:=λhx=>W.aE _ (bc hx)
 have tL:∀x g,cu σ W.next ⟨B,s,s+cs.length⟩ x=some g->(x=W.next/\g=⟨B,s,s+cs.length⟩)\/(x≠W.next/\σ x=some g):=λx g hc=>by
  unfold cu at hc;split at hc
  ·rename_i hx;injection hc with hc;exact .inl ⟨hx,hc.symm⟩
  ·rename_i hx;exact .inr ⟨hx,hc⟩
 have uK:MR (cu σ W.next ⟨B,s,s+cs.length⟩) (W.add (.ro cs)):=by
  intro x g hx;rcases tL x g hx with⟨rfl,rfl⟩|⟨h1,h2⟩
  ·exact⟨cs,AW.aI _ _⟩
  ·obtain⟨cV,sW⟩:=h.ro x g h2;exact⟨cV,by rw[fp h1];exact sW⟩
 refine⟨⟨⟨?_,?_,?_,?_⟩,uK,?_⟩,hs⟩
 ·intro x hx;rw[AW.av]at hx;rw[fp (by omega)];exact h.rel.free x (by omega)
 ·intro x g hx;rw[AW.av];rcases tL x g hx with⟨rfl,rfl⟩|⟨_,h2⟩
  ·exact⟨by omega,lA⟩
  ·have:=h.rel.qL x g h2;exact⟨by omega,this.2⟩
 ·intro x o g hx hk;rcases tL x g hk with⟨rfl,rfl⟩|⟨h1,h2⟩
  ·rw[AW.aI]at hx;injection hx with hx;subst hx;exact⟨c,t,fr,hB,aQ _,λi v hv=>let⟨v',a,b⟩:=hc i v hv;⟨v',a,b.mono hs⟩⟩
  ·rw[fp h1]at hx;exact(h.rel.obj x o g hx h2).mono hs
 ·intro b1 b2 o1 o2 g1 g2 S3 h1 h2 k1 k2 hr;obtain⟨c1,e1⟩:=uK b1 g1 k1;obtain⟨c2,e2⟩:=uK b2 g2 k2;rw[h1]at e1;rw[h2]at e2;injection e1 with e1;injection e2 with e2;subst e1;subst e2;simp[ZQ]at hr
 ·obtain⟨b,g,hb⟩:=h.some_;exact⟨b,g,hs b g hb⟩
def M9{w:ar}{base:Nat}{a:bg}{n:Nat}{cs:List ad}(h:w.cells? base a n=some cs)(hn:0<n):∃c t fr,w.heap[a.block]? =some (.cells c t fr)/\a.spot=none/\cs.length=n/\∀i,i<n->c[a.off+i]? =cs[i]? :=by
 unfold World.cells? at h;split at h;case isFalse=>cases h
 have hl:=mapM_some_length h;rw[Ee]at hl;have hg:∀i,i<n->w.cell? (a.add i)=cs[i]? :=λi hi=>mapM_some_get h i i (by simp[hi])
 have h0:=hg 0 hn;have e0:a.add 0=a:=by simp[Addr.add]
 rw[e0,bN (by omega)]at h0;unfold World.cell? at h0;split at h0;case h_2=>cases h0
 rename_i c t fr hh;split at h0;case isTrue=>cases h0
 rename_i wS;refine⟨c,t,fr,hh,by simpa using wS,hl,λi hi=>?_⟩;rw[<-hg i hi];unfold World.cell?;have eb:(a.add i).block=a.block:=by unfold Addr.add;split<;>rfl
 have eo:(a.add i).off=a.off+i:=by unfold Addr.add;split<;>simp_all
 have es:(a.add i).spot=none:=by unfold Addr.add;split<;>simp_all
 rw[eb,hh];simp only[es,eo,vR,ik,cn]
section
variable {H:Type} {enc:af×ad->H} {P:ag} {w:ar}
def aaw(P:ag)(w:ar)(n:Nat)(t:af)(cV:List ad):Prop:=∀σ W,np σ W w->∃σ2 W2 cs,np σ2 W2 w/\Sub σ σ2/\Le W W2/\LR σ2 cs cV/\DR P W2 n t cs
def Ds{n:Nat}{bE:Nat}{cV:List ad}(hl:cV.length=bE):∀{fs:List wi} {off:Nat},abu P bE off fs=true->(∀f∈fs,aaw P w n f.type ((cV.drop f.offset).take (P.cellsOf f.type)))->
 ∀σ W,np σ W w->∃σ2 W2 cs,np σ2 W2 w/\Sub σ σ2/\Le W W2/\LR σ2 cs (cV.drop off)/\En (DR P W2 n) (fs.map (·.type)) cs
 |[],off,h,_,σ,W,ho=>by unfold abu at h;have:=uW.1 h;refine⟨σ,W,[],ho,.refl _,.refl _,?_,rfl⟩;rw[xB (by omega)];exact .nil
 |f::fs,off,h,hf,σ,W,ho=>by
  unfold abu at h;simp only[bA]at h;have Kz:=uW.1 h.1;obtain⟨σ1,W1,c1,o1,s1,l1,r1,a1⟩:=hf f (by simp) σ W ho;obtain⟨σ2,W2,c2,o2,s2,l2,r2,a2⟩:=Ds hl h.2 (λg hg=>hf g (by simp[hg])) σ1 W1 o1;refine⟨σ2,W2,c1++c2,o2,s1.trans s2,l1.trans l2,?_,c1,c2,rfl,a1.mono l2,a2⟩;rw[Kz]at r1;have e:cV.drop off=(cV.drop off).take (P.cellsOf f.type)++cV.drop (off+P.cellsOf f.type):=by rw[<-xu,vu]
  rw[e];exact(r1.mono s2).append r2
def IR{n z:Nat}{e:af}:∀{LL:List (List ad)},(∀c∈LL,c.length=z/\aaw P w n e c)->
 ∀σ W,np σ W w->∃(σ2:dz) (W2:AW) (l:List (List ad)),np σ2 W2 w/\Sub σ σ2/\Le W W2/\LR σ2 l.flatten LL.flatten/\l.length=LL.length/\∀c∈l,c.length=z/\DR P W2 n e c
 |[],_,σ,W,ho=>⟨σ,W,[],ho,.refl _,.refl _,.nil,rfl,by simp⟩
 |c0::LL,h,σ,W,ho=>by
  obtain⟨σ1,W1,c1,o1,s1,l1,r1,a1⟩:=(h c0 (by simp)).2 σ W ho;obtain⟨σ2,W2,l,o2,s2,l2,r2,e2,a2⟩:=IR (LL:=LL) (λc hc=>h c (by simp[hc])) σ1 W1 o1;refine⟨σ2,W2,c1::l,o2,s1.trans s2,l1.trans l2,?_,by simp[e2],?_⟩
  ·rw[List.flatten_cons,List.flatten_cons];exact(r1.mono s2).append r2
  ·intro c hc;rcases eI.1 hc with rfl|hc
   ·exact⟨by rw[r1.1];exact(h c0 (by simp)).1,a1.mono l2⟩
   ·exact a2 c hc
def Rt(L:List ad)(o z:Nat):∀n,((List.range n).map λi=>(L.drop (o+i*z)).take z).flatten=(L.drop o).take (n*z)
 |0=>by simp
 |n+1=>by rw[ql,rI,List.flatten_append,Rt L o z n,Nat.succ_mul,List.take_add,xu];simp
def KS:∀{n m:Nat} {t:af} {cV:List ad} {x:cp H×List di},Yg P n t=true->DataW.trod enc P w 0 (λ_=>true) true m t cV=some x->aaw P w n t cV:=by
 intro n;induction n with
 |zero=>intro m t cV x h;cases h
 |succ n ih=>
  intro m t cV x h hx σ W ho;unfold Yg at h;split at h
  ·rename_i ht;obtain⟨b,rfl,_⟩:=DataW.trod_bool ht hx;exact⟨σ,W,[.bool b],ho,.refl _,.refl _,.cons (.bool b) .nil,by unfold DR;rw[ht];exact⟨b,rfl⟩⟩
  ·rename_i k ht;obtain⟨z,rfl,_,hwf⟩:=DataW.trod_int ht hx;simp only[Lit.wf,bA,ip]at hwf;exact⟨σ,W,[.int k z],ho,.refl _,.refl _,.cons (.int k z) .nil,by unfold DR;rw[ht];exact⟨z,rfl,hwf⟩⟩
  ·rename_i ht;obtain⟨s,rfl,_,hs⟩:=DataW.trod_string ht hx;exact⟨σ,W,[.string s],ho,.refl _,.refl _,.cons (.string s) .nil,by unfold DR;rw[ht];exact⟨s,rfl,by unfold maxLen at hs;omega⟩⟩
  ·rename_i fs ht;simp only[bA,db]at h;obtain⟨xs,m',_,_,hl,dv,hf⟩:=DataW.trod_struct ht hx;have:=Ds (P:=P) (w:=w) (n:=n) hl h.1 (λf hfm=>by
    obtain⟨i,hi,rfl⟩:=Bk hfm;have hi2:i<fs.size:=by simpa using hi
    have h1:=hf i fs[i] (by rw[jK hi2]);rw[bN (by omega)]at h1;have e:fs.toList[i]=fs[i]:=by simp
    rw[e];exact ih (by rw[<-e];exact h.2 _ hfm) h1) σ W ho;obtain⟨σ2,W2,cs,o2,s2,l2,r2,a2⟩:=this;rw[jj]at r2;exact⟨σ2,W2,cs,o2,s2,l2,r2,by unfold DR;rw[ht];exact a2⟩
  ·rename_i e ht;simp only[bA,ip]at h;obtain⟨hz,nh⟩:=h;have mk:∀{W2:AW} {a:Option bg} {len cap:Nat},len<=cap->cap<eG->(a=none\/∃b,a=some ⟨b,0,none⟩)->(len=0\/∃(b:Nat) (l:List (List ad)),a=some ⟨b,0,none⟩/\b<W2.next/\aH W2 b=some l.flatten/\l.length=len/\∀c∈l,c.length=P.cellsOf e/\DR P W2 n e c)->DR P W2 (n+1) t [.slice a len cap]:=λh1 h2 HN h3=>by unfold DR;rw[ht];exact⟨_,_,_,rfl,h1,h2,HN,h3⟩
   rcases DataW.trod_slice ht hx with⟨rfl,_⟩|⟨a,len,cap,ayj,kn,m',_,rfl,_,_,hlc,rf,hel,aM,wS,_⟩
   ·exact⟨σ,W,[.slice none 0 0],ho,.refl _,.refl _,.cons (.I4 0 0) .nil,mk (aQ _) (by unfold eG;omega) (.inl rfl) (.inl rfl)⟩
   obtain⟨Ga,Qh⟩:=wS rfl;have aiQ:cap<eG:=by unfold maxLen at rf;unfold eG;omega
   by_cases hc0:cap=0
   ·obtain rfl:len=0:=by omega
    subst hc0;obtain⟨b,g,hg⟩:=ho.some_;exact⟨σ,W,[.slice (some ⟨b,0,none⟩) 0 0],ho,.refl _,.refl _,.cons (.dO ⟨b,0,none⟩ a 0 g hg (.inl rfl)) .nil,mk (aQ _) (by unfold eG;omega) (.inr ⟨b,rfl⟩) (.inl rfl)⟩
   ·
    have yC:∀i,i<cap->∃ci,w.cells? 0 (a.add (i*P.cellsOf e)) (P.cellsOf e)=some ci/\∃x,DataW.trod enc P w 0 (λ_=>true) true m' e ci=some x:=by
     intro i hi;by_cases hil:i<len
     ·have h1:=aM i hil;rw[bN (by omega)]at h1;obtain⟨ci,h2,h3⟩:=Option.bind_eq_some_iff.1 h1;exact⟨ci,h2,_,h3⟩
     ·have h1:=Qh (i-len) (by omega);rw[bN (by omega),show len+(i-len)=i by omega]at h1;obtain⟨ci,h2,h3⟩:=Option.bind_eq_some_iff.1 h1;exact⟨ci,h2,_,h3⟩
    obtain⟨c0,aoo,_⟩:=yC 0 (by omega);have ea0:a.add (0*P.cellsOf e)=a:=by simp[Addr.add]
    rw[ea0]at aoo;obtain⟨c,tt,fr,hB,aid,_,_⟩:=M9 aoo hz;have hci:∀i,i<cap->∃x,((c.toList.drop (a.off+i*P.cellsOf e)).take (P.cellsOf e)).length=P.cellsOf e/\DataW.trod enc P w 0 (λ_=>true) true m' e ((c.toList.drop (a.off+i*P.cellsOf e)).take (P.cellsOf e))=some x:=by
     intro i hi;obtain⟨ci,h1,x,h2⟩:=yC i hi;obtain⟨c2,t2,fr2,SZ,_,CK,rX⟩:=M9 h1 hz;have eb:(a.add (i*P.cellsOf e)).block=a.block:=by unfold Addr.add;split<;>rfl
     have eo:(a.add (i*P.cellsOf e)).off=a.off+i*P.cellsOf e:=by unfold Addr.add;split<;>simp_all
     rw[eb,hB]at SZ;injection SZ with SZ;injection SZ with SZ;subst SZ;rw[eo]at rX;have ec:(c.toList.drop (a.off+i*P.cellsOf e)).take (P.cellsOf e)=ci:=by
      apply oJ;intro j;by_cases hj:j<P.cellsOf e
      ·rw[mm,an hj,p9,xj];exact rX j hj
      ·rw[mm,ap hj,kF (by omega)]
     rw[ec];exact⟨x,CK,h2⟩
    obtain⟨σ1,W1,l,o1,s1,l1,r1,e1,a1⟩:=IR (P:=P) (w:=w) (n:=n) (z:=P.cellsOf e) (e:=e) (LL:=(List.range len).map λi=>(c.toList.drop (a.off+i*P.cellsOf e)).take (P.cellsOf e)) (λci hm=>by
     obtain⟨i,hi,rfl⟩:=my.1 hm;rw[pX]at hi;obtain⟨x,h1,h2⟩:=hci i (by omega);exact⟨h1,ih nh h2⟩) σ W ho;rw[Rt]at r1;rw[eP,Ee]at e1;obtain⟨o2,s2⟩:=o1.add (s:=a.off) (cs:=l.flatten) hB (λi v hv=>by
     obtain⟨v',hv',hr⟩:=r1.get hv;refine⟨v',?_,hr⟩;rw[mm]at hv';split at hv'
     ·rw[p9,xj]at hv';exact hv'
     ·cases hv');have lw:Le W1 (W1.add (.ro l.flatten)):=(Le.refl W1).add _;have ev:(⟨a.block,a.off+0,none⟩:bg)=a:=by
     obtain⟨b,o,s⟩:=a;simp only at aid;subst aid;rfl
    have hv:VR (cu σ1 W1.next ⟨a.block,a.off,a.off+l.flatten.length⟩) (.slice (some ⟨W1.next,0,none⟩) len cap) (.slice (some ⟨a.block,a.off+0,none⟩) len cap):=
     .slice ⟨W1.next,0,none⟩ len cap cap ⟨a.block,a.off,a.off+l.flatten.length⟩ dN rfl (.known cap aiQ)
    rw[ev]at hv;refine⟨_,_,[.slice (some ⟨W1.next,0,none⟩) len cap],o2,s1.trans s2,l1.trans lw,.cons hv .nil,mk hlc aiQ (.inr ⟨W1.next,rfl⟩) (.inr ⟨W1.next,l,rfl,by rw[AW.av];omega,Jl (W1.aI _),e1,λci hm=>⟨(a1 ci hm).1,(a1 ci hm).2.mono lw⟩⟩)⟩
  ·cases h
end
end
end Go.Eng
namespace Go.Eng
open Go Go.RowKit Go.ChangeShapes Go.WideShapes
section
variable [ai]
section
variable {P:ag} {W:AW} {α:Type}
def DR.int{n:Nat}{t:af}{cs:List ad}{k:be}(h:DR P W (n+1) t cs)(ht:P.underlying t=some (.int k)):∃m,cs=[.int k m]:=by unfold DR at h;rw[ht]at h;obtain⟨m,h,_⟩:=h;exact⟨m,h⟩
def DR.str{n:Nat}{t:af}{cs:List ad}(h:DR P W (n+1) t cs)(ht:P.underlying t=some .string):∃s:ByteArray,cs=[.string s]/\s.size<9223372036854775808:=by unfold DR at h;rw[ht]at h;exact h
def DR.struct{n:Nat}{t:af}{cs:List ad}{fs:Array wi}(h:DR P W (n+1) t cs)(ht:P.underlying t=some (.struct fs)):En (DR P W n) (fs.toList.map (·.type)) cs:=by unfold DR at h;rw[ht]at h;exact h
def DR.slice{n:Nat}{t e:af}{cs:List ad}(h:DR P W (n+1) t cs)(ht:P.underlying t=some (.slice e)):
 ∃a len cap,cs=[.slice a len cap]/\len<=cap/\cap<eG/\(len=0\/∃(b:Nat) (l:List (List ad)),a=some ⟨b,0,none⟩/\b<W.next/\aH W b=some l.flatten/\l.length=len/\∀c∈l,c.length=P.cellsOf e/\DR P W n e c):=by
 unfold DR at h;rw[ht]at h;obtain⟨a,len,cap,h1,h2,h3,_,h4⟩:=h;exact⟨a,len,cap,h1,h2,h3,h4⟩
def DR.alf{n:Nat}{t e:af}{cs:List ad}(h:DR P W (n+1) t cs)(ht:P.underlying t=some (.slice e)):
 ∃a len cap,cs=[.slice a len cap]/\len<=cap/\cap<eG/\(a=none\/∃b,a=some ⟨b,0,none⟩)/\(len=0\/∃(b:Nat) (l:List (List ad)),a=some ⟨b,0,none⟩/\b<W.next/\aH W b=some l.flatten/\l.length=len/\∀c∈l,c.length=P.cellsOf e/\DR P W n e c):=by
 unfold DR at h;rw[ht]at h;exact h
def QQ{z:Nat}{at_:List ad->Nat->α->Prop}:∀{l:List (List ad)},(∀c∈l,c.length=z/\∃x:α,∀pre post,at_ (pre++(c++post)) pre.length x)->∀pre:List ad,
 ∃xs:List α,xs.length=l.length/\∀i (h:i<xs.length),at_ (pre++l.flatten) (pre.length+i*z) xs[i]
 |[],_,_=>⟨[],rfl,λi h=>by simp at h⟩
 |c::l,hc,pre=>by
  obtain⟨hz,x,hx⟩:=hc c (by simp);obtain⟨xs,h1,h2⟩:=QQ (l:=l) (λd hd=>hc d (by simp[hd])) (pre++c);refine⟨x::xs,by simp[h1],λi h=>?_⟩;rw[List.flatten_cons];match i with
  |0=>simpa using hx pre l.flatten
  |i+1=>have:=h2 i (by simpa using h);rw[cx,hz,iR]at this;rw[List.getElem_cons_succ,Nat.succ_mul,Nat.add_comm (i*z) z,<-iq];exact this
def apN{α:Type}(W:AW)(z:Nat)(at_:List ad->Nat->α->Prop)(v:ad)(l:List α):Prop:=Row W z at_ v l/\(∃a c,v=.slice a l.length c/\l.length<=c/\c<eG/\(l≠[]->∃b o,a=some ⟨b,o,none⟩))
def DR.row{n:Nat}{t e:af}{cs:List ad}(h:DR P W (n+1) t cs)(ht:P.underlying t=some (.slice e)){at_:List ad->Nat->α->Prop}
 (sI:∀c,c.length=P.cellsOf e->DR P W n e c->∃x:α,∀pre post,at_ (pre++(c++post)) pre.length x):∃v l,cs=[v]/\apN W (P.cellsOf e) at_ v l:=by
 obtain⟨a,len,cap,rfl,h1,h2,h3⟩:=h.slice ht;rcases h3 with rfl|⟨b,l,rfl,h4,h5,rfl,h6⟩
 ·exact⟨_,[],rfl,⟨a,cap,rfl,.inl rfl⟩,a,cap,rfl,h1,h2,λh=>absurd rfl h⟩
 ·obtain⟨xs,e1,e2⟩:=QQ (z:=P.cellsOf e) (at_:=at_) (l:=l) (λc hc=>⟨(h6 c hc).1,sI c (h6 c hc).1 (h6 c hc).2⟩) [];refine⟨_,xs,rfl,⟨_,cap,by rw[e1],.inr ⟨b,0,l.flatten,rfl,h4,h5,λi hi=>?_⟩⟩,_,cap,by rw[e1],by omega,h2,λ_=>⟨b,0,rfl⟩⟩;have:=e2 i hi;simpa using this
def DR.ints{n:Nat}{t e:af}{cs:List ad}{k:be}(h:DR P W (n+2) t cs)(ht:P.underlying t=some (.slice e))(he:P.underlying e=some (.int k))(hz:P.cellsOf e=1):∃v l,cs=[v]/\apN W 1 (IN k) v l:=by have:=h.row ht (at_:=IN k) (λc _ hc=>by obtain⟨m,rfl⟩:=hc.int he;refine⟨m,λpre post=>?_⟩;unfold IN;rw[pY (by omega)];simp);rwa [hz]at this
def En.nil{g:af->List ad->Prop}{cs:List ad}(h:En g [] cs):cs=[]:=h
def En.cons{g:af->List ad->Prop}{t:af}{ts:List af}{cs:List ad}(h:En g (t::ts) cs):∃c1 c2,cs=c1++c2/\g t c1/\En g ts c2:=h
end
section
variable {H:Type} {enc:af×ad->H} {P:ag} {w w':ar} {base:Nat} {aca:Nat->Bool} {held:Bool}
def eE.same{p:di}(hq:eE w w')(hp:p.block<w.heap.size):w.sameAt w' p:=by
 cases p with
 |cell b off=>exact World.cell?_of_block (a:=⟨b,off,none⟩) (hq.block b hp)
 |map b=>exact hq.block b hp
def eE.trodAll(hq:eE w w'):∀{ts:List af} {vs:List ad} {ds:List (cp H)} {ps:List di},DataW.TrodAll enc P w base aca held ts vs ds ps->DataW.TrodAll enc P w' base aca held ts vs ds ps
 |[],[],[],_,h=>h
 |_::_,_::_,_::_,_,⟨p,q,⟨n,h1⟩,h2,e⟩=>⟨p,q,⟨n,DataW.trod_carry n _ _ _ h1 (λx hx=>hq.same (DataW.trod_lt n _ _ _ h1 x hx))⟩,hq.trodAll h2,e⟩
def XX{f:iC}{s:ChangeSpec}{args:Array ad}{ds gs:List (cp H)}{rH:List di}{T:af->Prop}(K:Kids P T)(hz:∀t e,T t->P.underlying t=some (.slice e)->0<P.cellsOf e)(hT:∀t∈f.params.toList,T t)
 (hW:DataW.Whole enc P f.params.toList s.vars false w args.toList ds gs rH)(hq:eE w w')(hv:s.vars=[])(LK:s.fn H ds={results:=[.lit (.bool true)],args:=ds}){t:af}(hr:f.resultTypes=#[t])(ht:P.underlying t=some .bool):
 s.post enc P f false true false false w args (.bool true) w':=by
 have hW':=hW;obtain⟨p,q,hA,hV,rfl,_,_⟩:=hW;rw[hv]at hV;obtain⟨rfl,rfl⟩:=trodVars_none hV;have lA:=hA.lt;refine⟨ds,[],p++[],[],p,[],hW',?_,?_,?_,hq.grown.frame _,λh=>by cases h⟩
 ·rw[hr,fu,LK];exact trodAll_cons_mk (shut_bool ht _) trodAll_mk0
 ·rw[fu,LK];exact hq.trodAll (hA.respare K hz hT (λx hx=>by simpa using lA x hx))
 ·rw[hv,fu,LK];exact rfl
end
end
end Go.Eng
namespace Go.Eng
open Go
@[reducible] noncomputable def WU (D:Nat->Array am->Option (List (Nat×List Nat))) (ng:List Nat) (ex:af->Bool:=λ_=>false):ai where
 D:=D
 ex:=ex
 ng:=ng
 Fr:=T ad
 I5:=λR t=>(T.get (path t) R).getD aj
 abU:=λR t v=>T.set (some v) (path t) R
 blank:=.lf
 oX:=λR t v=>by rw[T.oX];rfl
 iL:=λR t u v h=>by rw[T.iL _ _ _ _ (AE h)]
 E5:=λt=>by rw[T.Fp];rfl
end Go.Eng
