/- A part: contracts and laws. -/
import Derived.Test.YtekljimefjclgaaGreatDoorPartC
set_option linter.unusedVariables false
set_option linter.unusedSimpArgs false
set_option linter.unusedSectionVars false
set_option linter.defProp false
noncomputable section
open Go renaming TypeId->ai,Value->ae,undef->ag
set_option maxRecDepth 100000
namespace Go.Proofs.YtekljimefjclgaaGreatDoor
open Go Go.Eng
structure In where
 er:Int
 se:Int
 n:Int
 dl:Int
 t1:Int
 t2:Int
 t3:Int
 t4:Int
 pl:Int
structure EE where
 se:Int
 sr:Int
 ep:Int
 ga:Int
 ti:Int
structure de where
 k:Int
 tn:Int
 wk:Int
 id:Int
 lk:Int
 op:qS
 rp:In
 en:EE
structure pc where
 id:Int
 wk:Int
 op:qS
 rp:In
 ar:Int
 co:Int
 an:Int
def Ht:qS:=⟨0,0,0,0,0,0,0,0,0,0,0,0⟩
def wO:In:=⟨0,0,0,0,0,0,0,0,0⟩
def Ex:EE:=⟨0,0,0,0,0⟩
def rd0:de:=⟨0,0,0,0,0,Ht,wO,Ex⟩
def Vv:pc:=⟨0,0,Ht,wO,0,0,0⟩
abbrev rpC(r:In):List ae:=[.af r.er,.af r.se,.af r.n,.af r.dl,.int .u32 r.t1,.int .u32 r.t2,.int .u64 r.t3,.int .u64 r.t4,.af r.pl]
abbrev Ik(g:EE):List ae:=[.int .u32 g.se,.int .u64 g.sr,.int .u64 g.ep,.af g.ga,.af g.ti]
abbrev fe(e:de):List ae:=[.af e.k,.af e.tn,.af e.wk,.af e.id,.af e.lk,.af e.op.k,.int .u32 e.op.ow,.af e.op.un,.af e.op.se,.af e.op.sc,.af e.op.n,.int .u32 e.op.to,.int .u32 e.op.t1,.int .u32 e.op.t2,.int .u64 e.op.t3,.int .u64 e.op.t4,.af e.op.nw,
 .af e.rp.er,.af e.rp.se,.af e.rp.n,.af e.rp.dl,.int .u32 e.rp.t1,.int .u32 e.rp.t2,.int .u64 e.rp.t3,.int .u64 e.rp.t4,.af e.rp.pl,.int .u32 e.en.se,.int .u64 e.en.sr,.int .u64 e.en.ep,.af e.en.ga,.af e.en.ti]
abbrev gq(e:pc):List ae:=[.af e.id,.af e.wk,.af e.op.k,.int .u32 e.op.ow,.af e.op.un,.af e.op.se,.af e.op.sc,.af e.op.n,.int .u32 e.op.to,.int .u32 e.op.t1,.int .u32 e.op.t2,.int .u64 e.op.t3,.int .u64 e.op.t4,.af e.op.nw,
 .af e.rp.er,.af e.rp.se,.af e.rp.n,.af e.rp.dl,.int .u32 e.rp.t1,.int .u32 e.rp.t2,.int .u64 e.rp.t3,.int .u64 e.rp.t4,.af e.rp.pl,.af e.ar,.af e.co,.af e.an]
abbrev IR(r:In):ae:=.agg (rpC r).toArray
abbrev Lv(g:EE):ae:=.agg (Ik g).toArray
abbrev AT(e:de):ae:=.agg (fe e).toArray
abbrev clV(e:pc):ae:=.agg (gq e).toArray
abbrev cr(b:Nat):ae:=.pointer (some ⟨b,0,none⟩)
def eQ{b o:Nat}{cs:List ae}{x:ae}{W:AW}(h:W.get b=some (.cells cs))(hv:cs[o]? =some x):aK (.pointer (some ⟨b,o,none⟩)) W=some (x,W):=df (bk h) hv
def Bp{W:AW}{b:Nat}{cs:List ae}(h:W.get b=some (.cells cs)):aH W b=some cs:=by unfold aH;rw[h]
def Ix{cs vs:List ae}(h:cs.length=vs.length):gI cs 0 vs=vs:=by unfold gI;rw[px,kg,aI,<-h,List.drop_length,jn]
def ov{n b:Nat}{cs:List ae}{vs:Array ae}{W:AW}(h:W.get b=some (.cells cs))(h1:cs.length=n)(h2:vs.size=n)(h3:vs.toList.all Eng.one=true):bP n (.pointer (some ⟨b,0,none⟩)) (.agg vs) W=some (ag,W.put b (.cells vs.toList)):=by have hl:=Array.length_toList (xs:=vs);rw[vf,Bp h,bp,ax ⟨h2,by omega,h3⟩,Ix (by omega)]
def Yg(W:AW):aY Tryz.prog 98 W=some (cr W.next,W.add (.cells (fe rd0))):=aJ (by kernel_rfl) rfl
def aft(W:AW):aY Tryz.prog 45 W=some (cr W.next,W.add (.cells (gq Vv))):=aJ (by kernel_rfl) rfl
def aeU(W:AW):aY Tryz.prog 39 W=some (cr W.next,W.add (.cells [.int .u32 0,.int .u32 0,.int .u64 0,.int .u64 0])):=aJ (by kernel_rfl) rfl
def ak0(W:AW):aY Tryz.prog 60 W=some (cr W.next,W.add (.cells (Ik Ex))):=aJ (by kernel_rfl) rfl
def vP(e:de)(W:AW):cD (AT e) W=some (cr W.next,W.add (.cells (fe e))):=gD _
def NO(e:de)(W:AW):bP 31 (cr W.next) (AT e) (W.add (.cells (fe rd0)))=some (ag,W.add (.cells (fe e))):=by have:=ov (n:=31) (vs:=(fe e).toArray) (AW.aT W (.cells (fe rd0))) rfl rfl rfl;rwa [gt]at this
def ZP(e:pc)(W:AW):bP 26 (cr W.next) (clV e) (W.add (.cells (gq Vv)))=some (ag,W.add (.cells (gq e))):=by have:=ov (n:=26) (vs:=(gq e).toArray) (AW.aT W (.cells (gq Vv))) rfl rfl rfl;rwa [gt]at this
def abV(k tn wk id:Int)(W:AW):bD Tryz.prog 98 [(0,.af k),(1,.af tn),(2,.af wk),(3,.af id)] W=some (AT ⟨k,tn,wk,id,0,Ht,wO,Ex⟩,W):=aJ (by kernel_rfl) rfl
def aiz(W:AW):bD Tryz.prog 41 [] W=some (z8 Ht,W):=aJ (by kernel_rfl) rfl
def aeO(W:AW):bD Tryz.prog 43 [] W=some (IR wO,W):=aJ (by kernel_rfl) rfl
def afI(W:AW):bD Tryz.prog 60 [] W=some (Lv Ex,W):=aJ (by kernel_rfl) rfl
section
variable {W:AW} {b:Nat} {e:de} {c:pc}
def mp(x:W.get b=some (.cells (fe e))):bA 31 (cr b) W=some (AT e,W):=eh (bk x) rfl
def pa(x:W.get b=some (.cells (fe e))):aK (cr b) W=some (.af e.k,W):=eQ x rfl
def sx(x:W.get b=some (.cells (fe e))):aK (.pointer (some ⟨b,1,none⟩)) W=some (.af e.tn,W):=eQ x rfl
def fx(x:W.get b=some (.cells (fe e))):aK (.pointer (some ⟨b,2,none⟩)) W=some (.af e.wk,W):=eQ x rfl
def fw(x:W.get b=some (.cells (fe e))):aK (.pointer (some ⟨b,3,none⟩)) W=some (.af e.id,W):=eQ x rfl
def qy(x:W.get b=some (.cells (fe e))):aK (.pointer (some ⟨b,4,none⟩)) W=some (.af e.lk,W):=eQ x rfl
def tx(x:W.get b=some (.cells (fe e))):bA 12 (.pointer (some ⟨b,5,none⟩)) W=some (z8 e.op,W):=eh (bk x) rfl
def yU(x:W.get b=some (.cells (fe e))):bA 9 (.pointer (some ⟨b,17,none⟩)) W=some (IR e.rp,W):=eh (bk x) rfl
def DV(x:W.get b=some (.cells (fe e))):bA 5 (.pointer (some ⟨b,26,none⟩)) W=some (Lv e.en,W):=eh (bk x) rfl
end
def jD{α:Type}(z:Nat)(f:α->List ae)(cs:List ae)(p:Nat)(e:α):Prop:=(cs.drop p).take z=f e
def oC{α:Type}{z:Nat}{f:α->List ae}{cs:List ae}{p:Nat}{e:α}(h:jD z f cs p e){j:Nat}(hj:j<z):cs[p+j]? =(f e)[j]? :=by unfold jD at h;rw[<-h,mb,ax hj,uk]
def jT{α:Type}{z:Nat}{f:α->List ae}(hf:∀a,(f a).length=z)(a:α)(pre post:List ae):jD z f (pre++(f a++post)) pre.length a:=by unfold jD;rw[xS,<-hf a,uH]
abbrev Hg(W:AW)(v:ae)(l:List de):Prop:=Row W 31 (jD 31 fe) v l
abbrev ClL(W:AW)(v:ae)(l:List pc):Prop:=Row W 26 (jD 26 gq) v l
def nM(e:de):(fe e).length=31:=rfl
def dA(e:pc):(gq e).length=26:=rfl
def Ow(e:de):(fe e).all Eng.one=true:=rfl
def BN(e:pc):(gq e).all Eng.one=true:=rfl
def qK:((#[25]:Array ai)[0]?).bind Tryz.prog.underlying=some (.slice 98):=by kernel_rfl
def aai:((#[33]:Array ai)[0]?).bind Tryz.prog.underlying=some (.slice 45):=by kernel_rfl
def Hg.get{W:AW}{v:ae}{l:List de}(h:Hg W v l){i:Nat}(hi:i<l.length):
 ∃p,(∀W' k,gn 31 v (.int k (i:Int)) W'=some (p,W'))/\∀W',Le W W'->bA 31 p W'=some (AT l[i],W'):=by
 obtain⟨b,o,cs,h1,h2,h3,h4⟩:=h.elem hi;refine⟨_,h1,λW' a8=>?_⟩;have e0:(cs.drop o).take 31=fe l[i]:=h4;have:=eh (n:=31) (o:=o) (W:=W') (by rw[a8.aL h2];exact h3) (by rw[e0];rfl);rw[e0]at this;exact this
def g41:Tryz.prog.eqGuardType Tryz.prog.depth 41=false:=by kernel_rfl
def g43:Tryz.prog.eqGuardType Tryz.prog.depth 43=false:=by kernel_rfl
def g60:Tryz.prog.eqGuardType Tryz.prog.depth 60=false:=by kernel_rfl
def g98:Tryz.prog.eqGuardType Tryz.prog.depth 98=false:=by kernel_rfl
def q43(x y:In):Ba Tryz.prog 8 43 (IR x) (IR y)=ur (match lB [(x.t1,y.t1),(x.t2,y.t2),(x.t3,y.t3),(x.t4,y.t4)]with|some true=>lB [(x.pl,y.pl)]|some false=>some false|none=>none) [(x.er,y.er),(x.se,y.se),(x.n,y.n),(x.dl,y.dl)]:=by kernel_rfl
def q60(x y:EE):Ba Tryz.prog 8 60 (Lv x) (Lv y)=lB [(x.se,y.se),(x.sr,y.sr),(x.ep,y.ep),(x.ga,y.ga),(x.ti,y.ti)]:=by kernel_rfl
def opQ(x y:qS):Option Bool:=ur (match lB [(x.t1,y.t1),(x.t2,y.t2),(x.t3,y.t3),(x.t4,y.t4)]with|some true=>lB [(x.nw,y.nw)]|some false=>some false|none=>none) [(x.k,y.k),(x.ow,y.ow),(x.un,y.un),(x.se,y.se),(x.sc,y.sc),(x.n,y.n),(x.to,y.to)]
def rpQ(x y:In):Option Bool:=ur (match lB [(x.t1,y.t1),(x.t2,y.t2),(x.t3,y.t3),(x.t4,y.t4)]with|some true=>lB [(x.pl,y.pl)]|some false=>some false|none=>none) [(x.er,y.er),(x.se,y.se),(x.n,y.n),(x.dl,y.dl)]
def gtQ(x y:EE):Option Bool:=lB [(x.se,y.se),(x.sr,y.sr),(x.ep,y.ep),(x.ga,y.ga),(x.ti,y.ti)]
def Zh(o r:Option Bool):Option Bool:=match o with|some true=>r|some false=>some false|none=>none
def q98(x y:de):Ba Tryz.prog 8 98 (AT x) (AT y)=ur (Zh (opQ x.op y.op) (Zh (rpQ x.rp y.rp) (Zh (gtQ x.en y.en) (some true)))) [(x.k,y.k),(x.tn,y.tn),(x.wk,y.wk),(x.id,y.id),(x.lk,y.lk)]:=by kernel_rfl
def Z4{r:Option Bool}{rb:Bool}(hr:r=some rb)(l:List (Int×Int)):(match lB l with|some true=>r|some false=>some false|none=>none)=some ((l.all λp=>p.1==p.2)&&rb):=by
 rw[kh];cases l.all λp=>p.1==p.2 with
 |true=>rw[jK];exact hr
 |false=>rfl
def GN(a b:Bool):Zh (some a) (some b)=some (a&&b):=by cases a<;>rfl
def qS.mB{x y:qS}:x=y<->x.k=y.k/\x.ow=y.ow/\x.un=y.un/\x.se=y.se/\x.sc=y.sc/\x.n=y.n/\x.to=y.to/\x.t1=y.t1/\x.t2=y.t2/\x.t3=y.t3/\x.t4=y.t4/\x.nw=y.nw:=by cases x;cases y;simp
def In.mB{x y:In}:x=y<->x.er=y.er/\x.se=y.se/\x.n=y.n/\x.dl=y.dl/\x.t1=y.t1/\x.t2=y.t2/\x.t3=y.t3/\x.t4=y.t4/\x.pl=y.pl:=by cases x;cases y;simp
def EE.mB{x y:EE}:x=y<->x.se=y.se/\x.sr=y.sr/\x.ep=y.ep/\x.ga=y.ga/\x.ti=y.ti:=by cases x;cases y;simp
def de.mB{x y:de}:x=y<->x.k=y.k/\x.tn=y.tn/\x.wk=y.wk/\x.id=y.id/\x.lk=y.lk/\x.op=y.op/\x.rp=y.rp/\x.en=y.en:=by cases x;cases y;simp
open Classical in
def Uj(x y:qS):opQ x y=some (decide (x=y)):=by unfold opQ;rw[Z4 (kh _),qG];congr 1;rw[qu];simp only[fa,mf,iM,bK,mn,mM,qS.mB,and_assoc]
open Classical in
def VZ(x y:In):rpQ x y=some (decide (x=y)):=by unfold rpQ;rw[Z4 (kh _),qG];congr 1;rw[qu];simp only[fa,mf,iM,bK,mn,mM,In.mB,and_assoc]
open Classical in
def SY(x y:EE):gtQ x y=some (decide (x=y)):=by unfold gtQ;rw[kh];congr 1;rw[qu];simp only[fa,mf,iM,bK,mn,mM,EE.mB]
open Classical in
def aij(x y:In)(c d:Bool)(W:AW):aw Tryz.prog .neq 43 c d (IR x) (IR y) W=some (.bool (!decide (x=y)),W):=
 hX g43 ((q43 x y).trans (VZ x y))
open Classical in
def aak(x y:EE)(c d:Bool)(W:AW):aw Tryz.prog .neq 60 c d (Lv x) (Lv y) W=some (.bool (!decide (x=y)),W):=
 hX g60 ((q60 x y).trans (SY x y))
def q41(x y:qS):Ba Tryz.prog 8 41 (z8 x) (z8 y)=opQ x y:=by kernel_rfl
open Classical in
def af0(x y:qS)(c d:Bool)(W:AW):aw Tryz.prog .neq 41 c d (z8 x) (z8 y) W=some (.bool (!decide (x=y)),W):=
 hX g41 ((q41 x y).trans (Uj x y))
open Classical in
def Z1(x y:de)(c d:Bool)(W:AW):aw Tryz.prog .neq 98 c d (AT x) (AT y) W=some (.bool (!decide (x=y)),W):=by refine hX g98 ((q98 x y).trans ?_);rw[Uj,VZ,SY,GN,GN,GN,qG];congr 1;rw[qu];simp only[fa,mf,iM,bK,mn,mM,de.mB,and_assoc]
def opE(o:qS):Int:=sG o.k o.ow o.un o.se o.sc o.n o.to o.t1 o.t2 o.t3 o.t4 o.nw
def PB(o:qS){W:AW}(h:GW W):bm (.func (.func 75) #[] #[]) [z8 o] W=some (.af (opE o),W):=yn _ _ _ _ _ _ _ _ _ _ _ _ h
def Qk(o:qS)(W:AW):bm (.func (.func 79) #[] #[]) [z8 o] W=some (.af (opE o),W):=AY _ _ _ _ _ _ _ _ _ _ _ _ W
structure ei where
 c:Nat
 s:Nat
 e:Bool
structure RS where
 cl:List pc
 of:Int->Option ei
 lk:Int->Option Int
 tn:Int
 st:Int
def RS.init:RS:=⟨[],λ_=>none,λ_=>none,0,-1⟩
def nE(x:de):Bool:=decide (2<=x.k)&&decide (x.k<=4)
def ij(x:de):de:=⟨x.k,x.tn,x.wk,x.id,if x.k=2\/x.k=4 then x.lk else 0,if x.k=1 then x.op else Ht,if x.k=3 then x.rp else wO,if x.k=6 then x.en else Ex⟩
open Classical in
def dX(s:RS)(x:de):Int:=
 if x.k<1\/6<x.k then 2 else
 if x≠ij x then 2 else
 if x.tn<0\/1000000000<x.tn\/x.wk<1\/64<x.wk then 7 else
 if x.tn<s.tn\/(nE x=true/\x.tn<=s.st)then 18 else 0
def aZ(s:RS)(c:Nat):pc:=s.cl.getD c Vv
def fX(k:Int):Int:=if k=2 then 1 else if k=3 then 2 else 3
def CC(c:pc)(o:ei)(y:EE):Prop:=
 c.op.k=9/\0<=c.co/\c.rp.er=0/\o.e=false/\y.se=c.op.t1/\y.sr=c.op.t3/\y.ep=c.op.t4/\0<=y.ga/\y.ga<8/\0<=y.ti
open Classical in
def sd(v:cA)(s:RS)(x:de):Int:=
 if dX s x≠0 then dX s x else
 if x.k=1 then
  (if(s.of x.wk).isSome=true then 8 else if s.cl.length=200 then 3 else if x.id≠(s.cl.length:Int)+1 then 6 else opE x.op)
 else match s.of x.wk with
  |none=>4
  |some o=>
   if(aZ s o.c).id≠x.id then 4 else
   if x.k=5 then(if(o.s:Int)<(km v (aZ s o.c).op).1 then 6 else 0)else
   if x.k=6 then(if CC (aZ s o.c) o x.en then 0 else 6)else
   if iK v (aZ s o.c).op o.s≠((fX x.k,x.lk),0)then 6 else
   if x.k=2/\(s.lk x.lk).isSome=true then 20 else 0
def ql(l:List pc)(c:Nat)(f:pc->pc):List pc:=match l[c]? with
 |some x=>l.set c (f x)
 |none=>l
def H9(s:RS)(i:Nat)(x:de):RS:=
 let t:=if nE x=true then x.tn else s.st
 if x.k=1 then⟨s.cl++[⟨x.id,x.wk,x.op,wO,i,-1,-1⟩],λw=>if w=x.wk then some ⟨s.cl.length,0,false⟩else s.of w,s.lk,x.tn,t⟩
 else match s.of x.wk with
  |none=>s
  |some o=>
   if x.k=5 then⟨ql s.cl o.c λc=>{c with an:=i},λw=>if w=x.wk then none else s.of w,s.lk,x.tn,t⟩else
   if x.k=6 then⟨s.cl,λw=>if w=x.wk then some ⟨o.c,o.s,true⟩else s.of w,s.lk,x.tn,t⟩else
   ⟨if x.k=3 then ql s.cl o.c λc=>{c with co:=i,rp:=x.rp}else s.cl,λw=>if w=x.wk then some ⟨o.c,o.s+1,o.e⟩else s.of w,
     λk=>if k=x.lk then(if x.k=2 then some x.id else if x.k=4 then none else s.lk k)else s.lk k,x.tn,t⟩
inductive fQ (v:cA) (l:List de):Nat->RS->Prop
 |zero:fQ v l 0 RS.init
 |succ {k:Nat} {s:RS} {x:de}:fQ v l k s->l[k]? =some x->sd v s x=0->fQ v l (k+1) (H9 s k x)
def fQ.Xp{v:cA}{l:List de}{k:Nat}{s s':RS}(h:fQ v l k s)(h':fQ v l k s'):s=s':=by
 induction h generalizing s' with
 |zero=>cases h';rfl
 |succ h hx _ ih=>
  cases h' with
  |succ h2 hx2 _=>rw[hx]at hx2;injection hx2 with hx2;subst hx2;rw[ih h2]
def fQ.prev{v:cA}{l:List de}{k:Nat}{s:RS}(h:fQ v l (k+1) s):∃s0 x,fQ v l k s0/\l[k]? =some x/\sd v s0 x=0/\s=H9 s0 k x:=by
 cases h with
 |succ h hx he=>exact⟨_,_,h,hx,he,rfl⟩
def fQ.pre{v:cA}{l:List de}{k:Nat}{s:RS}(h:fQ v l k s):∀j,j<=k->∃s',fQ v l j s':=by
 induction h with
 |zero=>intro j hj;obtain rfl:j=0:=by omega
        exact⟨_,.zero⟩
 | @succ k s x h hx he ih=>
  intro j hj;by_cases e:j=k+1
  ·subst e;exact⟨_,.succ h hx he⟩
  ·exact ih j (by omega)
structure kZ (s:RS):Prop where
 ids:∀(j:Nat) (c:pc),s.cl[j]? =some c->c.id=(j:Int)+1
 of:∀(w:Int) (o:ei),s.of w=some o->o.c<s.cl.length
 len:s.cl.length<=200
 wk:∀(w:Int) (o:ei),s.of w=some o->1<=w/\w<=64
 steps:∀(w:Int) (o:ei),s.of w=some o->o.s<=49
def mA(l:List pc)(c:Nat)(f:pc->pc):(ql l c f).length=l.length:=by
 unfold ql;split
 ·exact kp
 ·rfl
def Do(l:List pc)(c:Nat)(f:pc->pc)(j:Nat):(ql l c f)[j]? =(l[j]?).map λx=>if j=c then f x else x:=by
 unfold ql;by_cases e:c=j
 ·subst e;cases h:l[c]? with
  |none=>simp only[h,Option.map_none]
  |some o=>have:=(du.1 h).1;simp only[sa,bh,this,cS]
 ·cases h:l[c]? with
  |none=>simp only[ay (bL e),Option.map_id']
  |some o=>simp only[sa,ay e,ay (bL e),Option.map_id']
def sQ{s:RS}{x:de}(h:dX s x=0):(1<=x.k/\x.k<=6)/\x=ij x/\(0<=x.tn/\x.tn<=1000000000)/\(1<=x.wk/\x.wk<=64)/\s.tn<=x.tn/\(nE x=true->s.st<x.tn):=by
 unfold dX at h;split at h
 ·omega
 rename_i h1;split at h
 ·omega
 rename_i h2;split at h
 ·omega
 rename_i h3;split at h
 ·omega
 rename_i h4;refine⟨by omega,sk.1 h2,by omega,by omega,by omega,λho=>?_⟩;simp only[not_or,not_and]at h4;have:=h4.2 ho;omega
def rB{v:cA}{o:qS}{i:Nat}{a b:Int}(h:iK v o i=((a,b),0)):i<2*(bZ v o).1.length+1/\(bZ v o).2=0:=by
 unfold iK at h;by_cases c1:(bZ v o).2=0
 ·rw[ax c1]at h;by_cases c2:0<=(i:Int)/\(i:Int)<2*((bZ v o).1.length:Int)+1
  ·exact⟨by omega,c1⟩
  ·rw[ay c2]at h;simp at h
 ·rw[ay c1]at h;simp at h;exact absurd h.2 c1
def fQ.inv{v:cA}{l:List de}{k:Nat}{s:RS}(h:fQ v l k s):kZ s:=by
 induction h with
 |zero=>exact⟨by simp[RS.init],by simp[RS.init],by simp[RS.init],by simp[RS.init],by simp[RS.init]⟩
 | @succ k s x eE hx he ih=>
  unfold sd at he;by_cases c0:dX s x=0;case neg=>rw[ax c0]at he;exact absurd he c0
  rw[ay (by simpa using c0)]at he;obtain⟨hk,hb,ht,hw,-,-⟩:=sQ c0;unfold H9;by_cases c1:x.k=1
  ·rw[ax c1]at he;simp only[ax c1];split at he
   ·omega
   split at he
   ·omega
   split at he
   ·omega
   rename_i h1 h2 h3;refine⟨λj c hc=>?_,λw o ho=>?_,by simp;have:=ih.len;omega,λw o ho=>?_,λw o ho=>?_⟩
   ·simp only[wv]at hc;split at hc
    ·exact ih.ids j c hc
    ·rename_i hj;have:j=s.cl.length:=by
      by_cases e:j-s.cl.length=0
      ·omega
      ·rw[rK (by simp;omega)]at hc;cases hc
     subst this;simp at hc;subst hc;exact sk.1 h3
   ·simp only at ho;split at ho
    ·injection ho with ho;subst ho;simp
    ·have:=ih.of w o ho;simp;omega
   ·simp only at ho;split at ho
    ·omega
    ·exact ih.wk w o ho
   ·simp only at ho;split at ho
    ·injection ho with ho;subst ho;simp
    ·exact ih.steps w o ho
  ·rw[ay c1]at he;simp only[ay c1];cases ho:s.of x.wk with
   |none=>rw[ho]at he;exact absurd (show(4:Int)=0 from he) (by decide)
   |some o=>
    rw[ho]at he;simp only at he|-;have mr:=ih.of _ _ ho;split at he
    ·omega
    by_cases c5:x.k=5
    ·simp only[ax c5];refine⟨λj c hc=>?_,λw o' im=>?_,by simp only[mA];exact ih.len,λw o' im=>?_,λw o' im=>?_⟩
     ·rw[Do]at hc;cases hj:s.cl[j]? with
      |none=>rw[hj]at hc;cases hc
      |some y=>rw[hj]at hc;simp only[cS,gJ]at hc;have:=ih.ids j y hj;subst hc;split<;>exact this
     ·simp only[mA]at im|-;split at im
      ·cases im
      ·exact ih.of w o' im
     ·simp only at im;split at im
      ·cases im
      ·exact ih.wk w o' im
     ·simp only at im;split at im
      ·cases im
      ·exact ih.steps w o' im
    ·rw[ay c5]at he;simp only[ay c5];by_cases c6:x.k=6
     ·simp only[ax c6];refine⟨ih.ids,λw o' im=>?_,ih.len,λw o' im=>?_,λw o' im=>?_⟩
      ·simp only at im;split at im
       ·injection im with im;subst im;exact mr
       ·exact ih.of w o' im
      ·simp only at im;split at im
       ·omega
       ·exact ih.wk w o' im
      ·simp only at im;split at im
       ·injection im with im;subst im;exact(ih.steps _ _ ho:o.s<=49)
       ·exact ih.steps w o' im
     ·rw[ay c6]at he;simp only[ay c6];split at he
      ·omega
      rename_i nS;have gZ:=(rB (sk.1 nS)).1;have a8:=sM v (aZ s o.c).op;refine⟨λj c hc=>?_,λw o' im=>?_,?_,λw o' im=>?_,λw o' im=>?_⟩
      ·split at hc
       ·rw[Do]at hc;cases hj:s.cl[j]? with
        |none=>rw[hj]at hc;cases hc
        |some y=>rw[hj]at hc;simp only[cS,gJ]at hc;have:=ih.ids j y hj;subst hc;split<;>exact this
       ·exact ih.ids j c hc
      ·simp only at im|-;split at im
       ·injection im with im;subst im;split
        ·rw[mA];exact mr
        ·exact mr
       ·split
        ·rw[mA];exact ih.of w o' im
        ·exact ih.of w o' im
      ·simp only;split
       ·rw[mA];exact ih.len
       ·exact ih.len
      ·simp only at im;split at im
       ·omega
       ·exact ih.wk w o' im
      ·simp only at im;split at im
       ·injection im with im;subst im;simp only;omega
       ·exact ih.steps w o' im
inductive qW (v:cA) (l:List de):Int->Int->Prop
 |ZY:(fp v).2≠0->qW v l (-1) (fp v).2
 |len:(fp v).2=0->2000<l.length->qW v l (-1) 3
 |bad {k:Nat} {s:RS} {x:de}:(fp v).2=0->l.length<=2000->fQ v l k s->l[k]? =some x->sd v s x≠0->qW v l (k:Int) (sd v s x)
 |ok {s:RS}:(fp v).2=0->l.length<=2000->fQ v l l.length s->qW v l 0 0
def fQ.Y0{v:cA}{l:List de}{k k':Nat}{s s':RS}{x x':de}(h:fQ v l k s)(hx:l[k]? =some x)(he:sd v s x≠0)(h':fQ v l k' s')(DG:l[k']? =some x')(he':sd v s' x'≠0):k=k'/\s=s'/\x=x':=by
 have key:∀{k k':Nat} {s s':RS} {x:de},fQ v l k s->l[k]? =some x->sd v s x≠0->fQ v l k' s'->k<k'->False:=λ{k k' s s' x} h hx he h' gZ=>by obtain⟨s1,h1⟩:=h'.pre (k+1) gZ;obtain⟨s0,y,h2,h3,h4,-⟩:=h1.prev;rw[hx]at h3;injection h3 with h3;subst h3;rw[h.Xp h2]at he;exact he h4
 rcases Nat.lt_trichotomy k k' with e|e|e
 ·exact(key h hx he h' e).elim
 ·subst e;rw[hx]at DG;injection DG with DG;exact⟨rfl,h.Xp h',DG⟩
 ·exact(key h' DG he' h e).elim
def fQ.JU{v:cA}{l:List de}{k:Nat}{s s':RS}{x:de}(h:fQ v l k s)(hx:l[k]? =some x)(he:sd v s x≠0)(h':fQ v l l.length s'):False:=by have gZ:=(du.1 hx).1;obtain⟨s1,h1⟩:=h'.pre (k+1) gZ;obtain⟨s0,y,h2,h3,h4,-⟩:=h1.prev;rw[hx]at h3;injection h3 with h3;subst h3;rw[h.Xp h2]at he;exact he h4
def qW.Xp{v:cA}{l:List de}{a e a' e':Int}(h:qW v l a e)(h':qW v l a' e'):a=a'/\e=e':=by
 cases h with
 |ZY h1=>
  cases h' with
  |ZY _=>exact⟨rfl,rfl⟩
  |len k1 _=>exact absurd k1 h1
  |bad k1 _ _ _ _=>exact absurd k1 h1
  |ok k1 _ _=>exact absurd k1 h1
 |len h1 h2=>
  cases h' with
  |ZY k1=>exact absurd h1 k1
  |len _ _=>exact⟨rfl,rfl⟩
  |bad _ k2 _ _ _=>omega
  |ok _ k2 _=>omega
 |bad h1 h2 h3 h4 h5=>
  cases h' with
  |ZY k1=>exact absurd h1 k1
  |len _ k2=>omega
  |bad _ _ k3 k4 k5=>obtain⟨rfl,rfl,rfl⟩:=h3.Y0 h4 h5 k3 k4 k5;exact⟨rfl,rfl⟩
  |ok _ _ k3=>exact(h3.JU h4 h5 k3).elim
 |ok h1 h2 h3=>
  cases h' with
  |ZY k1=>exact absurd h1 k1
  |len _ k2=>omega
  |bad _ _ k3 k4 k5=>exact(k3.JU k4 k5 h3).elim
  |ok _ _ _=>exact⟨rfl,rfl⟩
def qW.E9{v:cA}{l:List de}{a:Int}(h:qW v l a 0):a=0/\(fp v).2=0/\l.length<=2000/\∃s,fQ v l l.length s:=by
 generalize he:(0:Int)=e at h;cases h with
 |ZY h1=>exact absurd he.symm h1
 |len _ _=>exact absurd he (by decide)
 |bad _ _ _ _ h5=>exact absurd he.symm h5
 |ok h1 h2 h3=>exact⟨rfl,h1,h2,_,h3⟩
def Si(sh fi:Int)(m k:Nat):(jj sh fi m k).Pairwise λa b=>a<b:=by unfold jj;rw[BK];exact(BQ.filter _).imp λh=>by omega
def acP(v:cA)(c:Int):(gM v c).1.Pairwise λa b=>a<b:=by
 unfold gM;by_cases h:(sW v c).2.2=0
 ·rw[ax h];obtain⟨b1,b2,b3,b4⟩:=zj h;obtain⟨h1,-⟩:=oz h;have e:=Oc (sh:=v.sh) (fi:=(sW v c).1) (m:=(sW v c).2.1.toNat) (gA h1).1 b1;rw[xL (by omega)]at e;simp only;rw[<-e];exact Si ..
 ·rw[ay h];exact .nil
def QG{v:cA}{s:Int}(h:(bI v s).2=0):(sW v ((bI v s).1.1:Int)).2.2=0:=by
 unfold bI at h|-;by_cases hf:(eN v s).2=0
 ·rw[ax hf];obtain⟨h1,h2,-⟩:=si hf;have hs:dP ((eN v s).1.sec:Int) (eN v s).1=true:=aS rfl;have hm:(eN v s).1∈(dn v.az).filter (dP ((eN v s).1.sec:Int)):=ky.2 ⟨h2,hs⟩;have hg:=(eJ h1).1;have hp:=nX (l:=(dn v.az).filter (dP ((eN v s).1.sec:Int))) (λx hx=>((kR (ky.1 hx).1).many hg).1);have hl:=List.length_pos_of_mem hm;unfold sW;rw[ax h1];simp only;rw[b8]
 ·rw[ay hf]at h;exact absurd h hf
def Wd{v:cA}(h1:(fp v).2=0)(k s c:Int):(fz v k s c).Pairwise λa b=>a<b:=by
 unfold fz;split
 ·rw[BK];exact BQ.imp λh=>by omega
 split
 ·exact acP v c
 split
 ·split
  ·rename_i hp;have hs:=pY v s;rw[hp]at hs;have e1:(fG v s).1=s % v.sh:=by
    unfold fG at hs|-;split
    ·rfl
    ·rename_i hn;rw[ay hn]at hs;exact absurd hs hn
   have e2:(eC v ((bI v s).1.1:Int)).1=v.sh+((bI v s).1.1:Int):=by unfold eC;rw[ax (QG hp)]
   have:=(gA h1).1;have:=yc s (by omega:0<v.sh);rw[e1,e2];exact List.Pairwise.cons (λa ha=>by rw[m9]at ha;omega) (BG _ _)
  ·exact .nil
 split
 ·split
  ·exact BG _ _
  ·exact .nil
 split
 ·split
  ·exact BG _ _
  ·exact .nil
 ·exact .nil
def P3(v:cA)(o:qS):(bZ v o).1.Pairwise λa b=>a<b:=by
 unfold bZ;split
 ·rename_i h1;split
  ·exact Wd h1 _ _ _
  ·exact .nil
 ·exact .nil
def NC{L:List Int}(h:L.Pairwise λa b=>a<b){i j:Nat}{a b:Int}(hi:L[i]? =some a)(hj:L[j]? =some b)(hij:i<j):a<b:=by obtain⟨h1,h2⟩:=du.1 hi;obtain⟨h3,h4⟩:=du.1 hj;have:=List.pairwise_iff_getElem.1 h i j h1 h3 hij;rw[h2,h4]at this;exact this
def YB{L:List Int}(h:L.Pairwise λa b=>a<b){i j:Nat}{a:Int}(hi:L[i]? =some a)(hj:L[j]? =some a):i=j:=by
 rcases Nat.lt_trichotomy i j with e|e|e
 ·have:=NC h hi hj e;omega
 ·exact e
 ·have:=NC h hj hi e;omega
structure qA where
 id:Int
 fr:Int
 to:Int
def clo(m:List qA)(t:Int):List qA:=match m[m.length-1]? with
 |some y=>m.set (m.length-1) ⟨y.id,y.fr,t⟩
 |none=>m
def AJ(k:Int)(m:List qA)(x:de):List qA:=if x.k=2/\x.lk=k then m++[⟨x.id,x.tn,-1⟩]else if x.k=4/\x.lk=k then clo m x.tn else m
def IM(k:Int)(l:List de):List qA:=l.foldl (AJ k) []
def ye{k:Int}{l:List de}{i:Nat}{x:de}(h:l[i]? =some x):IM k (l.take (i+1))=AJ k (IM k (l.take i)) x:=by unfold IM;rw[sq,h,sP,List.foldl_append];rfl
def JD(m:List qA)(y:qA)(t:Int):clo (m++[y]) t=m++[⟨y.id,y.fr,t⟩]:=by
 unfold clo;have e:(m++[y]).length-1=m.length:=by simp
 rw[e,gb (aP _),pT];simp
def KF(st:Int)(m:List qA):Prop:=m.Pairwise (λa b=>a.to<b.fr)/\∀y∈m,0<=y.fr/\y.fr<y.to/\y.to<=st
def Mc(st:Int)(m:List qA):Option Int->Prop
 |none=>KF st m
 |some id=>∃m' f,m=m'++[⟨id,f,-1⟩]/\KF st m'/\(∀y∈m',y.to<f)/\0<=f/\f<=st
def KF.mono{st EA:Int}{m:List qA}(h:KF st m)(hs:st<=EA):KF EA m:=⟨h.1,λy hy=>by have:=h.2 y hy;omega⟩
def Mc.mono{st EA:Int}{m:List qA}{o:Option Int}(h:Mc st m o)(hs:st<=EA):Mc EA m o:=by
 cases o with
 |none=>exact KF.mono h hs
 |some id=>obtain⟨m',f,e,h1,h2,h3,h4⟩:=h;exact⟨m',f,e,h1.mono hs,h2,h3,by omega⟩
def Mc.fr{st:Int}{m:List qA}{o:Option Int}(h:Mc st m o){y:qA}(hy:y∈m):0<=y.fr/\y.fr<=st:=by
 cases o with
 |none=>have:=h.2 y hy;omega
 |some id=>
  obtain⟨m',f,rfl,h1,h2,h3,h4⟩:=h;rcases oU.1 hy with hy|hy
  ·have:=h1.2 y hy;omega
  ·rw[m9]at hy;subst hy;exact⟨h3,h4⟩
def uj(L:List Int)(n:Nat)(k:Int):Prop:=∃j,L[j]? =some k/\j<n/\n<=2*L.length-j
structure qY (v:cA) (s:RS) (sp:Int->List qA):Prop where
 fwk:∀w o,s.of w=some o->(aZ s o.c).wk=w/\(aZ s o.c).an= -1
 flk:∀k id,s.lk k=some id<->∃w o,s.of w=some o/\id=(o.c:Int)+1/\uj (bZ v (aZ s o.c).op).1 o.s k
 WY:∀k,Mc s.st (sp k) (s.lk k)
 fid:∀k y,y∈sp k->1<=y.id/\y.id<=s.cl.length
 SR:∀w o k y,s.of w=some o->y∈sp k->y.id=(o.c:Int)+1->∃j,j<o.s/\(bZ v (aZ s o.c).op).1[j]? =some k
 Py:∀k k' y y',y∈sp k->y'∈sp k'->k<k'->y.id=y'.id->y.fr<y'.fr
def qY.inj{v:cA}{s:RS}{sp:Int->List qA}(h:qY v s sp){w w':Int}{o o':ei}(ho:s.of w=some o)(im:s.of w'=some o')(hc:o.c=o'.c):w=w':=by rw[<-(h.fwk _ _ ho).1,<-(h.fwk _ _ im).1,hc]
def qY.lkO{v:cA}{s:RS}{sp:Int->List qA}(h:qY v s sp){w:Int}{o:ei}(ho:s.of w=some o)(k:Int):s.lk k=some ((o.c:Int)+1)<->uj (bZ v (aZ s o.c).op).1 o.s k:=by
 rw[h.flk];constructor
 ·rintro⟨w',o',h1,h2,h3⟩;have:=h.inj ho h1 (by omega);subst this;rw[ho]at h1;injection h1 with h1;rw[h1];exact h3
 ·intro h3;exact⟨w,o,ho,rfl,h3⟩
def FO(l:List pc)(c:Nat)(f:pc->pc){j:Nat}(hj:j<l.length):(ql l c f).getD j Vv=if j=c then f (l.getD j Vv)else l.getD j Vv:=by rw[iz,Do,iz,cL hj];rfl
def WF(l:List pc)(a:pc){j:Nat}(hj:j<l.length):(l++[a]).getD j Vv=l.getD j Vv:=by rw[iz,iz,tB hj]
def qY.step{v:cA}{s s':RS}{sp sp':Int->List qA}(h:qY v s sp)(hI:kZ s){w0:Int}{o:ei}(ho:s.of w0=some o)(n':Nat)(e':Bool)
 (vD:∀w,s'.of w=if w=w0 then some ⟨o.c,n',e'⟩else s.of w)
 (qF:∀c,c<s.cl.length->(aZ s' c).op=(aZ s c).op/\(aZ s' c).wk=(aZ s c).wk/\(aZ s' c).an=(aZ s c).an)
 (hlk:∀k id,s'.lk k=some id<->if id=(o.c:Int)+1 then uj (bZ v (aZ s o.c).op).1 n' k else s.lk k=some id)
 (pf:∀k,Mc s'.st (sp' k) (s'.lk k))(hid:∀k y,y∈sp' k->1<=y.id/\y.id<=s'.cl.length)
 (Hn:∀k y,y∈sp' k->if y.id=(o.c:Int)+1 then∃j,j<n'/\(bZ v (aZ s o.c).op).1[j]? =some k else∃y0,y0∈sp k/\y0.id=y.id)
 (alE:∀k k' y y',y∈sp' k->y'∈sp' k'->k<k'->y.id=y'.id->y.fr<y'.fr):qY v s' sp':=by
 refine⟨λw o1 h1=>?_,λk id=>?_,pf,hid,λw o1 k y h1 hy he=>?_,alE⟩
 ·rw[vD]at h1;split at h1
  ·rename_i e;subst e;injection h1 with h1;subst h1;obtain⟨a,b,c⟩:=qF _ (hI.of _ _ ho);have:=h.fwk _ _ ho;simp only;rw[b,c];exact this
  ·obtain⟨a,b,c⟩:=qF _ (hI.of _ _ h1);rw[b,c];exact h.fwk _ _ h1
 ·rw[hlk];constructor
  ·intro h1;split at h1
   ·rename_i e;exact⟨w0,⟨o.c,n',e'⟩,by rw[vD,ax rfl],e,by simp only;rw[(qF _ (hI.of _ _ ho)).1];exact h1⟩
   ·rename_i e;obtain⟨w,o1,h2,h3,h4⟩:=(h.flk k id).1 h1;have fk:¬w=w0:=λe2=>by subst e2;rw[ho]at h2;injection h2 with h2;subst h2;exact e h3
    exact⟨w,o1,by rw[vD,ay fk];exact h2,h3,by rw[(qF _ (hI.of _ _ h2)).1];exact h4⟩
  ·rintro⟨w,o1,h2,h3,h4⟩;rw[vD]at h2;split at h2
   ·injection h2 with h2;subst h2;rw[ax h3];rw[(qF _ (hI.of _ _ ho)).1]at h4;exact h4
   ·rename_i e;have:¬id=(o.c:Int)+1:=λe2=>e (h.inj h2 ho (by omega))
    rw[ay this];rw[(qF _ (hI.of _ _ h2)).1]at h4;exact(h.flk k id).2 ⟨w,o1,h2,h3,h4⟩
 ·have hw:=Hn k y hy;rw[vD]at h1;split at h1
  ·injection h1 with h1;subst h1;rw[ax he]at hw;simp only;rw[(qF _ (hI.of _ _ ho)).1];exact hw
  ·rename_i e;have:¬y.id=(o.c:Int)+1:=λe2=>e (h.inj h1 ho (by omega))
   rw[ay this]at hw;obtain⟨y0,h2,h3⟩:=hw;rw[(qF _ (hI.of _ _ h1)).1];exact h.SR w o1 k y0 h1 h2 (by omega)
def KP{L:List Int}{n:Nat}{k:Int}(h:dJ L n=(1,k)):n<L.length/\L[n]? =some k:=by
 unfold dJ at h;split at h
 ·rename_i hn;injection h with h1 h2;rw[iz,cL hn]at h2;exact⟨hn,by rw[cL hn];exact cR some h2⟩
 ·split at h
  ·injection h with h1;exact absurd h1 (by decide)
  ·injection h with h1;exact absurd h1 (by decide)
def Fb{L:List Int}{n:Nat}{k:Int}(h:dJ L n=(2,k)):n=L.length:=by
 unfold dJ at h;split at h
 ·injection h with h1;exact absurd h1 (by decide)
 ·split at h
  ·rename_i e;exact e
  ·injection h with h1;exact absurd h1 (by decide)
def An{L:List Int}{n:Nat}{k:Int}(h:dJ L n=(3,k))(hn:n<2*L.length+1):L.length<n/\L[2*L.length-n]? =some k:=by
 unfold dJ at h;split at h
 ·injection h with h1;exact absurd h1 (by decide)
 ·split at h
  ·injection h with h1;exact absurd h1 (by decide)
  ·have gZ:2*L.length-n<L.length:=by omega
   injection h with h1 h2;rw[iz,cL gZ]at h2;exact⟨by omega,by rw[cL gZ];exact cR some h2⟩
def L0{L:List Int}(hL:L.Pairwise λa b=>a<b){n:Nat}{k:Int}(hn:n<L.length)(hk:L[n]? =some k)(k':Int):uj L (n+1) k'<->(k'=k\/uj L n k'):=by
 constructor
 ·rintro⟨j,h1,h2,h3⟩;by_cases e:j=n
  ·subst e;rw[hk]at h1;injection h1 with h1;exact .inl h1.symm
  ·exact .inr ⟨j,h1,by omega,by omega⟩
 ·rintro(rfl|⟨j,h1,h2,h3⟩)
  ·exact⟨n,hk,by omega,by omega⟩
  ·exact⟨j,h1,by omega,by omega⟩
def Gr{L:List Int}{n:Nat}(hn:n=L.length)(k':Int):uj L (n+1) k'<->uj L n k':=by
 constructor
 ·rintro⟨j,h1,h2,h3⟩;have:=(du.1 h1).1;exact⟨j,h1,by omega,by omega⟩
 ·rintro⟨j,h1,h2,h3⟩;exact⟨j,h1,by omega,by omega⟩
def M2{L:List Int}(hL:L.Pairwise λa b=>a<b){n:Nat}{k:Int}(hn:L.length<n)(hk:L[2*L.length-n]? =some k)(hn2:n<2*L.length+1)(k':Int):uj L (n+1) k'<->(k'≠k/\uj L n k'):=by
 constructor
 ·rintro⟨j,h1,h2,h3⟩;have:=(du.1 h1).1;refine⟨λe=>?_,j,h1,by omega,by omega⟩;subst e;have:=YB hL h1 hk;omega
 ·rintro⟨h0,j,h1,h2,h3⟩;have:=(du.1 h1).1;refine⟨j,h1,by omega,?_⟩;by_cases e:j=2*L.length-n
  ·subst e;rw[hk]at h1;injection h1 with h1;exact absurd h1.symm h0
  ·omega
def QI{L:List Int}{n:Nat}(hn:2*L.length<n)(k:Int):¬uj L n k:=by rintro⟨j,h1,h2,h3⟩;have:=(du.1 h1).1;omega
def LD{v:cA}{o:qS}(h:(bZ v o).2≠0):(bZ v o).1=[]:=by
 unfold bZ at h|-;split
 ·split
  ·rename_i h1 h2;rw[ax h1,ax h2]at h;exact absurd rfl h
  ·rfl
 ·rfl
def X9{s:RS}(hI:kZ s){c:Nat}(hc:c<s.cl.length):(aZ s c).id=(c:Int)+1:=by
 have e:aZ s c=s.cl[c]:=by simp[aZ,List.getD,hc]
 rw[e];exact hI.ids c _ (cL hc)
def qY.init(v:cA):qY v RS.init λ_=>[]:=
 ⟨λw o h=>(by cases h),λk id=>⟨λh=>(by cases h),λ⟨w,o,h,_⟩=>(by cases h)⟩,λk=>⟨.nil,λy hy=>(by cases hy)⟩,λk y hy=>(by cases hy),λw o k y h=>(by cases h),λk k' y y' hy=>(by cases hy)⟩
def HF{k:Int}{m:List qA}{x:de}(h2:x.k≠2)(h4:x.k≠4):AJ k m x=m:=by unfold AJ;rw[ay λe=>h2 e.1,ay λe=>h4 e.1]
def qY.aaN{v:cA}{s:RS}{sp:Int->List qA}(h:qY v s sp)(hI:kZ s){x:de}{i:Nat}(hn:s.of x.wk=none)(st:Int)(c:pc)(h1:c.wk=x.wk)(h2:c.an= -1)(tn:Int)(nS:s.st<=st):
 qY v ⟨s.cl++[c],λw=>if w=x.wk then some ⟨s.cl.length,0,false⟩else s.of w,s.lk,tn,st⟩ sp:=by
 have pg:∀{j},j<s.cl.length->aZ ⟨s.cl++[c],λw=>if w=x.wk then some ⟨s.cl.length,0,false⟩else s.of w,s.lk,tn,st⟩ j=aZ s j:=λhj=>WF _ _ hj
 have new:aZ ⟨s.cl++[c],λw=>if w=x.wk then some ⟨s.cl.length,0,false⟩else s.of w,s.lk,tn,st⟩ s.cl.length=c:=by show(s.cl++[c]).getD s.cl.length Vv=c;rw[iz,gb (aP _),pT];rfl
 refine⟨λw o ho=>?_,λk id=>?_,λk=>(h.WY k).mono nS,λk y hy=>?_,λw o k y ho hy he=>?_,h.Py⟩
 ·simp only at ho;split at ho
  ·rename_i e;injection ho with ho;subst ho;simp only;rw[new,h1,h2];exact⟨e.symm,rfl⟩
  ·rw[pg (hI.of _ _ ho)];exact h.fwk _ _ ho
 ·simp only;rw[h.flk];constructor
  ·rintro⟨w,o,a,b,d⟩;refine⟨w,o,?_,b,by rw[pg (hI.of _ _ a)];exact d⟩;rw[ay]
   ·exact a
   ·intro e;subst e;rw[hn]at a;cases a
  ·rintro⟨w,o,a,b,d⟩;split at a
   ·injection a with a;subst a;obtain⟨j,_,hj,_⟩:=d;exact absurd hj (by simp)
   ·rw[pg (hI.of _ _ a)]at d;exact⟨w,o,a,b,d⟩
 ·have:=h.fid k y hy;simp only[cK,dE,oG];omega
 ·simp only at ho;split at ho
  ·injection ho with ho;subst ho;have:=h.fid k y hy;simp only at he;omega
  ·rw[pg (hI.of _ _ ho)];exact h.SR w o k y ho hy he
def qY.answer{v:cA}{s:RS}{sp:Int->List qA}(h:qY v s sp)(hI:kZ s){x:de}{o:ei}(ho:s.of x.wk=some o)(vN:∀k,¬uj (bZ v (aZ s o.c).op).1 o.s k)(f:pc->pc)(tn st:Int)(nS:s.st<=st):
 qY v ⟨ql s.cl o.c f,λw=>if w=x.wk then none else s.of w,s.lk,tn,st⟩ sp:=by
 have pg:∀{w o1},s.of w=some o1->w≠x.wk->aZ ⟨ql s.cl o.c f,λw=>if w=x.wk then none else s.of w,s.lk,tn,st⟩ o1.c=aZ s o1.c:=λ{w o1} h1 fk=>by show(ql s.cl o.c f).getD o1.c Vv=_;rw[FO _ _ _ (hI.of _ _ h1),ay (λe=>fk (h.inj h1 ho e))];rfl
 refine⟨λw o1 h1=>?_,λk id=>?_,λk=>(h.WY k).mono nS,λk y hy=>?_,λw o1 k y h1 hy he=>?_,h.Py⟩
 ·simp only at h1;split at h1
  ·cases h1
  ·rename_i e;rw[pg h1 e];exact h.fwk _ _ h1
 ·simp only;rw[h.flk];constructor
  ·rintro⟨w,o1,a,b,d⟩;by_cases e:w=x.wk
   ·subst e;rw[ho]at a;injection a with a;subst a;exact absurd d (vN k)
   ·exact⟨w,o1,by rw[ay e];exact a,b,by rw[pg a e];exact d⟩
  ·rintro⟨w,o1,a,b,d⟩;split at a
   ·cases a
   ·rename_i e;rw[pg a e]at d;exact⟨w,o1,a,b,d⟩
 ·have:=h.fid k y hy;simp only[mA];exact this
 ·simp only at h1;split at h1
  ·cases h1
  ·rename_i e;rw[pg h1 e];exact h.SR w o1 k y h1 hy he
def qY.next{v:cA}{s:RS}{sp:Int->List qA}{x:de}{i:Nat}(h:qY v s sp)(hI:kZ s)(he:sd v s x=0):qY v (H9 s i x) λk=>AJ k (sp k) x:=by
 unfold sd at he;by_cases c0:dX s x=0;case neg=>rw[ax c0]at he;exact absurd he c0
 rw[ay (by simpa using c0)]at he;obtain⟨hk,hb,ht,hw,hmt,Hn⟩:=sQ c0;have nS:s.st<=(if nE x=true then x.tn else s.st):=by
  split
  ·rename_i e;have:=Hn e;omega
  ·exact Int.le_refl _
 unfold H9;by_cases c1:x.k=1
 ·rw[ax c1]at he;simp only[ax c1];split at he
  ·omega
  rename_i hn;have pf:(λk=>AJ k (sp k) x)=sp:=funext λk=>HF (by omega) (by omega)
  rw[pf];refine h.aaN (i:=i) hI (by cases hq:s.of x.wk with|none=>rfl|some _=>rw[hq]at hn;exact absurd rfl hn) _ _ rfl rfl _ nS
 rw[ay c1]at he;simp only[ay c1];cases ho:s.of x.wk with
 |none=>rw[ho]at he;exact absurd (show(4:Int)=0 from he) (by decide)
 |some o=>
 rw[ho]at he;simp only at he|-;have mr:=hI.of _ _ ho;split at he
 ·omega
 rename_i hid;have hxi:x.id=(o.c:Int)+1:=by rw[<-sk.1 hid,X9 hI mr]
 by_cases c5:x.k=5
 ·rw[ax c5]at he;simp only[ax c5];have pf:(λk=>AJ k (sp k) x)=sp:=funext λk=>HF (by omega) (by omega)
  rw[pf];refine h.answer hI ho (λk=>?_) _ _ _ nS;by_cases hl:(bZ v (aZ s o.c).op).2=0
  ·have e:(km v (aZ s o.c).op).1=2*((bZ v (aZ s o.c).op).1.length:Int)+1:=by unfold km;rw[ax hl]
   rw[e]at he;split at he
   ·omega
   exact QI (by omega) k
  ·rw[LD hl];rintro⟨j,hj,_⟩;cases hj
 rw[ay c5]at he;simp only[ay c5];by_cases c6:x.k=6
 ·simp only[ax c6];have pf:(λk=>AJ k (sp k) x)=sp:=funext λk=>HF (by omega) (by omega)
  rw[pf];refine h.step hI ho o.s true (λw=>rfl) (λc _=>⟨rfl,rfl,rfl⟩) (λk id=>?_) (λk=>(h.WY k).mono nS) h.fid (λk y hy=>?_) h.Py
  ·show s.lk k=some id<->_;by_cases e:id=(o.c:Int)+1
   ·rw[ax e,e];exact h.lkO ho k
   ·rw[ay e]
  ·split
   ·rename_i e;exact h.SR _ _ k y ho hy e
   ·exact⟨y,hy,rfl⟩
 rw[ay c6]at he;simp only[ay c6];split at he
 ·omega
 rename_i we;have we:=sk.1 we;have gZ:=(rB we).1;have hL:=P3 v (aZ s o.c).op;have mE:dJ (bZ v (aZ s o.c).op).1 o.s=(fX x.k,x.lk):=by unfold iK at we;rw[ax (rB we).2,ax ⟨by omega,by omega⟩]at we;injection we
 have afb:nE x=true:=by unfold nE;simp;omega
 have hx:=Hn afb;rw[ax afb];have qF:∀(of':Int->Option ei) (X8:Int->Option Int) (t1 t2:Int) c,c<s.cl.length->(aZ ⟨if x.k=3 then ql s.cl o.c λc=>{c with co:=i,rp:=x.rp}else s.cl,of',X8,t1,t2⟩ c).op=(aZ s c).op/\(aZ ⟨if x.k=3 then ql s.cl o.c λc=>{c with co:=i,rp:=x.rp}else s.cl,of',X8,t1,t2⟩ c).wk=(aZ s c).wk/\(aZ ⟨if x.k=3 then ql s.cl o.c λc=>{c with co:=i,rp:=x.rp}else s.cl,of',X8,t1,t2⟩ c).an=(aZ s c).an:=λof' X8 t1 t2 c hc=>by
  by_cases c3:x.k=3
  ·simp only[ax c3];unfold aZ;simp only;rw[FO _ _ _ hc];split<;>exact⟨rfl,rfl,rfl⟩
  ·simp only[ay c3];exact⟨rfl,rfl,rfl⟩
 have eA:(if x.k=3 then ql s.cl o.c λc=>{c with co:=i,rp:=x.rp}else s.cl).length=s.cl.length:=by split<;>simp only[mA]
 generalize ZO:(bZ v (aZ s o.c).op).1=L at *;have Xw:=λk=>ZO▸h.lkO ho k
 have N9:=λk y hy e=>ZO▸h.SR _ _ k y ho hy e
 rcases(by omega:x.k=2\/x.k=3\/x.k=4)with c2|c3|c4
 ·
  have hq:¬(s.lk x.lk).isSome=true:=λe=>by rw[ax ⟨c2,e⟩]at he;omega
  have Hr:s.lk x.lk=none:=by cases e:s.lk x.lk with|none=>rfl|some _=>rw[e]at hq;exact absurd rfl hq
  rw[show fX x.k=1 by unfold fX;rw[ax c2]]at mE;obtain⟨hn,HB⟩:=KP mE;have hH:=L0 hL hn HB;have hsF:∀k,AJ k (sp k) x=if k=x.lk then sp k++[⟨x.id,x.tn,-1⟩]else sp k:=λk=>by
   unfold AJ;by_cases e:k=x.lk
   ·rw[ax ⟨c2,e.symm⟩,ax e]
   ·rw[ay λq=>e q.2.symm,ay λq=>e q.2.symm,ay e]
  have kX:∀k y,y∈AJ k (sp k) x->y∈sp k\/(k=x.lk/\y=⟨x.id,x.tn,-1⟩):=λk y hy=>by
   rw[hsF]at hy;split at hy
   ·rename_i e;rcases oU.1 hy with a|a
    ·exact .inl a
    ·exact .inr ⟨e,m9.1 a⟩
   ·exact .inl hy
  refine h.step hI ho (o.s+1) o.e (λw=>rfl) (λc hc=>qF _ _ _ _ c hc) (λk id=>?_) (λk=>?_) (λk y hy=>?_) (λk y hy=>?_) (λk k' y y' hy hy' F0 hyy=>?_)
  ·rw[ZO,hH];simp only[ax c2];by_cases e:k=x.lk
   ·rw[ax e];subst e;rw[hxi];constructor
    ·intro q;injection q with q;rw[ax q.symm];exact .inl rfl
    ·intro q;split at q
     ·rename_i e;rw[e]
     ·rw[Hr]at q;cases q
   ·rw[ay e];split
    ·rename_i e2;subst e2;rw[Xw];constructor
     ·exact .inr
     ·rintro(q|q)
      ·exact absurd q e
      ·exact q
    ·exact Iff.rfl
  ·simp only[ax c2];rw[hsF];by_cases e:k=x.lk
   ·rw[ax e,ax e];have:=h.WY k;rw[e,Hr]at this;rw[e];exact⟨_,_,rfl,KF.mono this (by omega),λy hy=>by have:=this.2 y hy;omega,by omega,Int.le_refl _⟩
   ·rw[ay e,ay e];exact(h.WY k).mono (by omega)
  ·simp only;rw[eA];rcases kX k y hy with a|⟨-,rfl⟩
   ·exact h.fid k y a
   ·simp only;omega
  ·rw[ZO];rcases kX k y hy with a|⟨rfl,rfl⟩
   ·split
    ·rename_i e;obtain⟨j,h1,h2⟩:=N9 k y a e;exact⟨j,by omega,h2⟩
    ·exact⟨y,a,rfl⟩
   ·simp only;rw[ax hxi];exact⟨o.s,by omega,HB⟩
  ·rcases kX k y hy with a|⟨rfl,rfl⟩
   ·rcases kX k' y' hy' with b|⟨rfl,rfl⟩
    ·exact h.Py k k' y y' a b F0 hyy
    ·have:=(h.WY k).fr a;simp only;omega
   ·rcases kX k' y' hy' with b|⟨rfl,rfl⟩
    ·obtain⟨j,h1,h2⟩:=N9 k' y' b (by simp only at hyy;omega);have:=NC hL h2 HB h1;omega
    ·omega
 ·
  rw[show fX x.k=2 by unfold fX;rw[b8,ax c3]]at mE;have hH:=Gr (Fb mE);have pf:(λk=>AJ k (sp k) x)=sp:=funext λk=>HF (by omega) (by omega)
  rw[pf];have ahY:∀k,(if k=x.lk then(if x.k=2 then some x.id else if x.k=4 then none else s.lk k)else s.lk k)=s.lk k:=λk=>by rw[ay (by omega:¬x.k=2),ay (by omega:¬x.k=4)];split<;>rfl
  refine h.step hI ho (o.s+1) o.e (λw=>rfl) (λc hc=>qF _ _ _ _ c hc) (λk id=>?_) (λk=>?_) (λk y hy=>?_) (λk y hy=>?_) h.Py
  ·simp only;rw[ahY,ZO,hH];split
   ·rename_i e;subst e;exact Xw k
   ·exact Iff.rfl
  ·simp only;rw[ahY];exact(h.WY k).mono (by omega)
  ·simp only;rw[eA];exact h.fid k y hy
  ·rw[ZO];split
   ·rename_i e;obtain⟨j,h1,h2⟩:=N9 k y hy e;exact⟨j,by omega,h2⟩
   ·exact⟨y,hy,rfl⟩
 ·
  rw[show fX x.k=3 by unfold fX;rw[b8,b8]]at mE;obtain⟨hn,HB⟩:=An mE gZ;have hH:=M2 hL hn HB gZ;have wW:s.lk x.lk=some ((o.c:Int)+1):=(Xw x.lk).2 ⟨_,HB,by omega,by omega⟩;obtain⟨m',f,e1,e2,e3,e4,e5⟩:∃m' f,sp x.lk=m'++[⟨(o.c:Int)+1,f,-1⟩]/\KF s.st m'/\(∀y∈m',y.to<f)/\0<=f/\f<=s.st:=by have:=h.WY x.lk;rw[wW]at this;exact this
  have hsF:∀k,AJ k (sp k) x=if k=x.lk then m'++[⟨(o.c:Int)+1,f,x.tn⟩]else sp k:=λk=>by
   unfold AJ;rw[ay (by omega:¬(x.k=2/\x.lk=k))];by_cases e:k=x.lk
   ·rw[ax ⟨c4,e.symm⟩,ax e,e,e1,JD]
   ·rw[ay λq=>e q.2.symm,ay e]
  have kX:∀k y,y∈AJ k (sp k) x->∃y0,y0∈sp k/\y0.id=y.id/\y0.fr=y.fr:=λk y hy=>by
   rw[hsF]at hy;split at hy
   ·rename_i e;subst e;rw[e1];rcases oU.1 hy with a|a
    ·exact⟨y,List.mem_append_left _ a,rfl,rfl⟩
    ·rw[m9]at a;subst a;exact⟨_,List.mem_append_right _ (m9.2 rfl),rfl,rfl⟩
   ·exact⟨y,hy,rfl,rfl⟩
  refine h.step hI ho (o.s+1) o.e (λw=>rfl) (λc hc=>qF _ _ _ _ c hc) (λk id=>?_) (λk=>?_) (λk y hy=>?_) (λk y hy=>?_) (λk k' y y' hy hy' F0 hyy=>?_)
  ·rw[ZO,hH];simp only[ay (by omega:¬x.k=2),ax c4];by_cases e:k=x.lk
   ·rw[ax e];subst e;constructor
    ·intro q;cases q
    ·intro q;split at q
     ·exact absurd rfl q.1
     ·rename_i e2;rw[wW]at q;injection q with q;exact absurd q.symm e2
   ·rw[ay e];split
    ·rename_i e2;subst e2;rw[Xw];exact⟨λq=>⟨e,q⟩,λq=>q.2⟩
    ·exact Iff.rfl
  ·simp only[ay (by omega:¬x.k=2),ax c4];rw[hsF];by_cases e:k=x.lk
   ·rw[ax e,ax e];refine⟨List.pairwise_append.2 ⟨e2.1,BG _ _,λa ha b hb=>?_⟩,λy hy=>?_⟩
    ·rw[m9]at hb;subst hb;exact e3 a ha
    ·rcases oU.1 hy with a|a
     ·have:=e2.2 y a;omega
     ·rw[m9]at a;subst a;simp only;omega
   ·rw[ay e,ay e];exact(h.WY k).mono (by omega)
  ·simp only;rw[eA];obtain⟨y0,a,b,-⟩:=kX k y hy;rw[<-b];exact h.fid k y0 a
  ·rw[ZO];obtain⟨y0,a,b,-⟩:=kX k y hy;split
   ·rename_i e;obtain⟨j,h1,h2⟩:=N9 k y0 a (by omega);exact⟨j,by omega,h2⟩
   ·exact⟨y0,a,b⟩
  ·obtain⟨y0,a,b,c⟩:=kX k y hy;obtain⟨y1,a',b',c'⟩:=kX k' y' hy';have:=h.Py k k' y0 y1 a a' F0 (by omega);omega
def fQ.agr{v:cA}{l:List de}{k:Nat}{s:RS}(h:fQ v l k s):qY v s λq=>IM q (l.take k):=by
 induction h with
 |zero=>exact qY.init v
 | @succ k s x eE hx he ih=>
  have e:(λq=>IM q (l.take (k+1)))=λq=>AJ q (IM q (l.take k)) x:=funext λq=>ye hx
  rw[e];exact ih.next eE.inv he
def fQ.Vq{v:cA}{l:List de}{k:Nat}{s:RS}{x:de}(h:fQ v l k s)(he:sd v s x=0)(h4:x.k=4):∃m y,IM x.lk (l.take k)=m++[y]:=by
 have hL:=h.agr;have hI:=h.inv;unfold sd at he;by_cases c0:dX s x=0;case neg=>rw[ax c0]at he;exact absurd he c0
 rw[ay (by simpa using c0),b8]at he;cases ho:s.of x.wk with
 |none=>rw[ho]at he;exact absurd (show(4:Int)=0 from he) (by decide)
 |some o=>
 rw[ho]at he;simp only at he;split at he
 ·omega
 rw[b8,b8]at he;split at he
 ·omega
 rename_i we;have we:=sk.1 we;have gZ:=(rB we).1;have mE:dJ (bZ v (aZ s o.c).op).1 o.s=(fX x.k,x.lk):=by unfold iK at we;rw[ax (rB we).2,ax ⟨by omega,by omega⟩]at we;injection we
 rw[show fX x.k=3 by unfold fX;rw[b8,b8]]at mE;obtain⟨hn,HB⟩:=An mE gZ;have wW:s.lk x.lk=some ((o.c:Int)+1):=(hL.lkO ho x.lk).2 ⟨_,HB,by omega,by omega⟩;have:=hL.WY x.lk;rw[wW]at this;obtain⟨m',f,e1,-⟩:=this;exact⟨m',_,e1⟩
def iN(call:Eng.Callee)(R:Nat->ae)(W:AW):Option LT:=ah (aB Tryz.prog .len #[56] 3 #[false] [(R 11)] W) λdv=>ah (aw Tryz.prog .lss 3 false false (R 13) dv.1 dv.2) λdT=>bg dT.1 (ah (gn 5 (R 11) (R 13) dT.2) λdU=>ah (bA 5 dU.1 dU.2) λez=>ah (gn 5 (R 12) (R 13) ez.2) λfU=>ah (bA 5 fU.1 fU.2) λfB=>ah (aw Tryz.prog .neq 60 false false ez.1 fB.1 fB.2) λfA=>bg fA.1 (some (X.ret,(bi R [(60,(R 13)),(61,(R 11)),(62,dv.1),(63,dT.1),(66,(R 11)),(67,(R 13)),(68,dU.1),(69,ez.1),(70,(R 12)),(71,(R 13)),(72,fU.1),(73,fB.1),(74,fA.1),(6,(.bool false))]),fA.2)) (ah (aw Tryz.prog .add 3 false true (R 13) (.af 1) fA.2) λgd=>some (X.normal,(bi R [(60,(R 13)),(61,(R 11)),(62,dv.1),(63,dT.1),(66,(R 11)),(67,(R 13)),(68,dU.1),(69,ez.1),(70,(R 12)),(71,(R 13)),(72,fU.1),(73,fB.1),(74,fA.1),(64,(R 13)),(65,gd.1),(13,gd.1)]),gd.2))) (some (X.exit 0,(bi R [(60,(R 13)),(61,(R 11)),(62,dv.1),(63,dT.1)]),dT.2))
def pI(call:Eng.Callee)(x0 x1 x2:ae)(W:AW):Option (ae×AW):=ah (cD x0 W) λr1=>ah (bA 5 r1.1 r1.2) λr2=>ah (call (cO 6) [r2.1] r2.2) λr3=>bg r3.1 (ah (call (cO 7) [] r3.2) λr4=>aF Tryz.prog [(r4.1,none)] r4.2) (ah (bA 5 r1.1 r3.2) λr5=>ah (call (cO 13) [r5.1,x1] r5.2) λr6=>ah (ap r6.1 0 r6.2) λr7=>ah (ap r6.1 1 r7.2) λr8=>ah (bA 5 r1.1 r8.2) λr9=>ah (call (cO 14) [r9.1,x1] r9.2) λbw=>ah (ap bw.1 0 bw.2) λbB=>ah (ap bw.1 1 bB.2) λbQ=>ah (call (cO 15) [r7.1,bB.1] bQ.2) λbS=>ah (BS Tryz.prog .not bS.1 bS.2) λcm=>ah (aQ (aU cm.1 false) (iT r8.1 cm.2) (some (ag,cm.2))) λbN=>ah (aQ (aU cm.1 false) (iT bQ.1 bN.2) (some (ag,bN.2))) λbV=>ah (aQ (aU cm.1 false) (aw Tryz.prog .neq 30 false false bN.1 bV.1 bV.2) (some (ag,bV.2))) λcj=>ah (bu cm.1 (.bool true) cj.1 cj.2) λcd=>bg cd.1 (aF Tryz.prog [((.bool false),none)] cd.2) (ah (bA 5 r1.1 cd.2) λbO=>ah (call (cO 16) [bO.1] bO.2) λbW=>ah (ap bW.1 0 bW.2) λcz=>ah (ap bW.1 1 cz.2) λcn=>ah (bA 5 r1.1 cn.2) λcx=>ah (call (cO 17) [cx.1] cx.2) λcE=>ah (ap cE.1 0 cE.2) λcH=>ah (ap cE.1 1 cH.2) λcZ=>ah (aB Tryz.prog .len #[56] 3 #[false] [cz.1] cZ.2) λcX=>ah (aB Tryz.prog .len #[56] 3 #[false] [cH.1] cX.2) λdm=>ah (aw Tryz.prog .neq 3 false false cX.1 dm.1 dm.2) λcU=>ah (aQ (aU cU.1 false) (iT cn.1 cU.2) (some (ag,cU.2))) λdN=>ah (aQ (aU cU.1 false) (iT cZ.1 dN.2) (some (ag,dN.2))) λdK=>ah (aQ (aU cU.1 false) (aw Tryz.prog .neq 30 false false dN.1 dK.1 dK.2) (some (ag,dK.2))) λdY=>ah (bu cU.1 (.bool true) dY.1 dY.2) λdC=>bg dC.1 (aF Tryz.prog [((.bool false),none)] dC.2) (ah (cW (iN call) (bi (dp 0 [x0,x1,x2] ak.blank) [(3,r1.1),(6,(.bool false)),(16,r2.1),(17,r3.1),(20,r5.1),(21,x1),(22,r6.1),(19,r6.1),(23,r7.1),(24,r8.1),(7,r7.1),(8,r8.1),(26,r9.1),(27,x1),(28,bw.1),(25,bw.1),(29,bB.1),(30,bQ.1),(9,bB.1),(10,bQ.1),(31,r7.1),(32,bB.1),(33,bS.1),(34,cm.1),(35,cm.1),(36,bN.1),(37,bV.1),(38,cj.1),(39,cd.1),(41,bO.1),(42,bW.1),(40,bW.1),(43,cz.1),(44,cn.1),(11,cz.1),(8,cn.1),(46,cx.1),(47,cE.1),(45,cE.1),(48,cH.1),(49,cZ.1),(12,cH.1),(10,cZ.1),(50,cz.1),(51,cX.1),(52,cH.1),(53,dm.1),(54,cU.1),(55,cU.1),(56,dN.1),(57,dK.1),(58,dY.1),(59,dC.1),(13,(.af 0))]) dC.2) λfS=>di 0 fS.1 (ah (bA 5 (fS.2.1 3) fS.2.2) λgX=>ah (call (cO 12) [gX.1,(fS.2.1 2)] gX.2) λgG=>ah (ap gG.1 0 gG.2) λfH=>ah (ap gG.1 1 fH.2) λiH=>ah (aY Tryz.prog 27 iH.2) λjB=>ah (bP 5 jB.1 fH.1 jB.2) λi9=>ah (bA 5 (fS.2.1 3) i9.2) λkW=>ah (call (cO 18) [kW.1,(fS.2.1 2)] kW.2) λj0=>ah (ap j0.1 0 j0.2) λlq=>ah (ap j0.1 1 lq.2) λlT=>ah (aY Tryz.prog 27 lT.2) λkY=>ah (bP 5 kY.1 lq.1 kY.2) λj6=>ah (bA 5 jB.1 j6.2) λpi=>ah (bA 5 kY.1 pi.2) λlz=>ah (call (cO 19) [pi.1,lz.1] lz.2) λoh=>ah (aQ (aU oh.1 true) (iT iH.1 oh.2) (some (ag,oh.2))) λo6=>ah (aQ (aU oh.1 true) (iT lT.1 o6.2) (some (ag,o6.2))) λmR=>ah (aQ (aU oh.1 true) (aw Tryz.prog .eql 30 false false o6.1 mR.1 mR.2) (some (ag,mR.2))) λph=>ah (bu oh.1 ph.1 (.bool false) ph.2) λpe=>ah (aQ (aU pe.1 true) (call (cO 7) [] pe.2) (some (ag,pe.2))) λuu=>ah (bu pe.1 uu.1 (.bool false) uu.2) λrF=>aF Tryz.prog [(rF.1,none)] rF.2) (iq fS.1 (aF Tryz.prog [((fS.2.1 6),none)] fS.2.2)))))
def tS{x0 x1 x2:ae}{W:AW}{r:ae×AW}(h:pI bm x0 x1 x2 W=some r):bm (.func (.func 5) #[] #[]) [x0,x1,x2] W=some (gc W r):=bH (nt:=98) (n:=3) (by kernel_rfl) (by kernel_rfl) rfl (aJ (by kernel_rfl) h)
def nf(call:Eng.Callee)(R:Nat->ae)(W:AW):Option LT:=ah (aO 0 (R 1) W) λcZ=>ah (aO 3 cZ.1 cZ.2) λcX=>ah (aK cX.1 cX.2) λdm=>ah (gn 3 dm.1 (R 4) dm.2) λcU=>ah (aO 1 cU.1 cU.2) λdN=>ah (aK dN.1 dN.2) λdK=>ah (aB Tryz.prog .len #[64] 3 #[false] [dK.1] dK.2) λdY=>ah (aw Tryz.prog .lss 3 false false (R 5) dY.1 dY.2) λdC=>bg dC.1 (ah (aO 0 (R 1) dC.2) λdv=>ah (aO 3 dv.1 dv.2) λdT=>ah (aK dT.1 dT.2) λdU=>ah (gn 3 dU.1 (R 4) dU.2) λez=>ah (aO 1 ez.1 ez.2) λfU=>ah (aK fU.1 fU.2) λfB=>ah (gn 1 fB.1 (R 5) fB.2) λfA=>ah (aK fA.1 fA.2) λgd=>ah (aB Tryz.prog .min #[3,3] 3 #[false,true] [gd.1,(.af 100)] gd.2) λfS=>ah (aB Tryz.prog .max #[3,3] 3 #[true,false] [(.af 0),fS.1] fS.2) λgX=>ah (aw Tryz.prog .add 3 false false (R 3) gX.1 gX.2) λgG=>ah (aw Tryz.prog .add 3 false true (R 5) (.af 1) gG.2) λfH=>some (X.normal,(bi R [(35,(R 5)),(36,cZ.1),(37,cX.1),(38,dm.1),(39,(R 4)),(40,cU.1),(41,dN.1),(42,dK.1),(43,dY.1),(44,dC.1),(47,(R 3)),(48,dv.1),(49,dT.1),(50,dU.1),(51,(R 4)),(52,ez.1),(53,fU.1),(54,fB.1),(55,(R 5)),(56,fA.1),(57,gd.1),(58,fS.1),(59,gX.1),(60,gG.1),(3,gG.1),(45,(R 5)),(46,fH.1),(5,fH.1)]),fH.2)) (some (X.exit 2,(bi R [(35,(R 5)),(36,cZ.1),(37,cX.1),(38,dm.1),(39,(R 4)),(40,cU.1),(41,dN.1),(42,dK.1),(43,dY.1),(44,dC.1)]),dC.2))
def nu(call:Eng.Callee)(R:Nat->ae)(W:AW):Option LT:=ah (aO 0 (R 1) W) λcz=>ah (aO 3 cz.1 cz.2) λcn=>ah (aK cn.1 cn.2) λcx=>ah (aB Tryz.prog .len #[22] 3 #[false] [cx.1] cx.2) λcE=>ah (aw Tryz.prog .lss 3 false false (R 4) cE.1 cE.2) λcH=>bg cH.1 (ah (cW (nf call) (bi R [(27,(R 4)),(28,cz.1),(29,cn.1),(30,cx.1),(31,cE.1),(32,cH.1),(5,(.af 0))]) cH.2) λiH=>di 2 iH.1 (ah (aw Tryz.prog .add 3 false true (iH.2.1 4) (.af 1) iH.2.2) λjB=>some (X.normal,(bi iH.2.1 [(33,(iH.2.1 4)),(34,jB.1),(4,jB.1)]),jB.2)) (none)) (some (X.exit 0,(bi R [(27,(R 4)),(28,cz.1),(29,cn.1),(30,cx.1),(31,cE.1),(32,cH.1)]),cH.2))
def zm(call:Eng.Callee)(x0:ae)(W:AW):Option (ae×AW):=ah (cD x0 W) λr1=>ah (aO 0 r1.1 r1.2) λr2=>ah (bA 4 r2.1 r2.2) λr3=>ah (call (cO 20) [r3.1] r3.2) λr4=>ah (aQ (aU r4.1 false) (aO 4 r1.1 r4.2) (some (ag,r4.2))) λr5=>ah (aQ (aU r4.1 false) (aK r5.1 r5.2) (some (ag,r5.2))) λr6=>ah (aQ (aU r4.1 false) (aB Tryz.prog .len #[25] 3 #[false] [r6.1] r6.2) (some (ag,r6.2))) λr7=>ah (aQ (aU r4.1 false) (aw Tryz.prog .gtr 3 false true r7.1 (.af 200) r7.2) (some (ag,r7.2))) λr8=>ah (aQ (aU r4.1 false) (iT r8.1 r8.2) (some (ag,r8.2))) λr9=>ah (aQ (aU r9.1 true) (aO 4 r1.1 r9.2) (some (ag,r9.2))) λbw=>ah (aQ (aU r9.1 true) (aK bw.1 bw.2) (some (ag,bw.2))) λbB=>ah (aQ (aU r9.1 true) (aB Tryz.prog .len #[25] 3 #[false] [bB.1] bB.2) (some (ag,bB.2))) λbQ=>ah (aQ (aU r9.1 true) (aw Tryz.prog .leq 3 false true bQ.1 (.af 2000) bQ.2) (some (ag,bQ.2))) λbS=>ah (aQ (aU r4.1 false) (bu r9.1 bS.1 (.bool false) bS.2) (some (ag,bS.2))) λcm=>ah (bu r4.1 (.bool true) cm.1 cm.2) λbN=>ah (aQ (aU bN.1 false) (aO 4 r1.1 bN.2) (some (ag,bN.2))) λbV=>ah (aQ (aU bN.1 false) (aK bV.1 bV.2) (some (ag,bV.2))) λcj=>ah (aQ (aU bN.1 false) (aB Tryz.prog .len #[25] 3 #[false] [cj.1] cj.2) (some (ag,cj.2))) λcd=>ah (aQ (aU bN.1 false) (aw Tryz.prog .gtr 3 false true cd.1 (.af 2010) cd.2) (some (ag,cd.2))) λbO=>ah (bu bN.1 (.bool true) bO.1 bO.2) λbW=>bg bW.1 (aF Tryz.prog [((.bool true),none)] bW.2) (ah (cW (nu call) (bi (dp 0 [x0] ak.blank) [(1,r1.1),(2,(.bool false)),(6,r2.1),(7,r3.1),(8,r4.1),(9,r4.1),(10,r5.1),(11,r6.1),(12,r7.1),(13,r8.1),(14,r9.1),(15,bw.1),(16,bB.1),(17,bQ.1),(18,bS.1),(19,cm.1),(20,bN.1),(21,bN.1),(22,bV.1),(23,cj.1),(24,cd.1),(25,bO.1),(26,bW.1),(3,(.af 0)),(4,(.af 0))]) bW.2) λi9=>di 0 i9.1 (ah (aw Tryz.prog .gtr 3 false true (i9.2.1 3) (.af 60) i9.2.2) λkW=>aF Tryz.prog [(kW.1,none)] kW.2) (none))
def Gv{x0:ae}{W:AW}{r:ae×AW}(h:zm bm x0 W=some r):bm (.func (.func 6) #[] #[]) [x0] W=some (gc W r):=bH (nt:=63) (n:=1) (by kernel_rfl) (by kernel_rfl) rfl (aJ (by kernel_rfl) h)
def yf(call:Eng.Callee)(x0:ae)(W:AW):Option (ae×AW):=ah (cD x0 W) λr1=>ah (bA 5 r1.1 r1.2) λr2=>ah (call (cO 24) [r2.1] r2.2) λr3=>ah (ap r3.1 0 r3.2) λr4=>ah (ap r3.1 1 r4.2) λr5=>ah (ap r3.1 2 r5.2) λr6=>aF Tryz.prog [(r5.1,none),(r6.1,none)] r6.2
def Bd{x0:ae}{W:AW}{r:ae×AW}(h:yf bm x0 W=some r):bm (.func (.func 8) #[] #[]) [x0] W=some (gc W r):=bH (nt:=12) (n:=1) (by kernel_rfl) (by kernel_rfl) rfl (aJ (by kernel_rfl) h)
def Ah(call:Eng.Callee)(x0:ae)(W:AW):Option (ae×AW):=ah (cD x0 W) λr1=>ah (bA 5 r1.1 r1.2) λr2=>ah (call (cO 25) [r2.1] r2.2) λr3=>ah (ap r3.1 0 r3.2) λr4=>ah (ap r3.1 1 r4.2) λr5=>ah (ap r3.1 2 r5.2) λr6=>ah (aY Tryz.prog 88 r6.2) λr7=>ah (bP 204 r7.1 r4.1 r7.2) λr8=>aF Tryz.prog [(r5.1,none),(r6.1,none)] r8.2
def Cg{x0:ae}{W:AW}{r:ae×AW}(h:Ah bm x0 W=some r):bm (.func (.func 9) #[] #[]) [x0] W=some (gc W r):=bH (nt:=15) (n:=1) (by kernel_rfl) (by kernel_rfl) rfl (aJ (by kernel_rfl) h)
def CK(call:Eng.Callee)(x0 x1:ae)(W:AW):Option (ae×AW):=ah (cD x0 W) λr1=>ah (aY Tryz.prog 27 r1.2) λr2=>ah (bA 5 r1.1 r2.2) λr3=>ah (call (cO 8) [r3.1] r3.2) λr4=>ah (ap r4.1 0 r4.2) λr5=>ah (ap r4.1 1 r5.2) λr6=>ah (aw Tryz.prog .neq 30 false true r6.1 (.af 0) r6.2) λr7=>bg r7.1 (ah (bD Tryz.prog 27 [] r7.2) λr8=>ah (bP 5 r2.1 r8.1 r8.2) λr9=>aF Tryz.prog [(r2.1,some 27),(r6.1,none)] r9.2) (ah (aw Tryz.prog .lss 3 false true x1 (.af 0) r7.2) λbw=>ah (aQ (aU bw.1 false) (iT x1 bw.2) (some (ag,bw.2))) λbB=>ah (aQ (aU bw.1 false) (aO 4 r1.1 bB.2) (some (ag,bB.2))) λbQ=>ah (aQ (aU bw.1 false) (aK bQ.1 bQ.2) (some (ag,bQ.2))) λbS=>ah (aQ (aU bw.1 false) (aB Tryz.prog .len #[25] 3 #[false] [bS.1] bS.2) (some (ag,bS.2))) λcm=>ah (aQ (aU bw.1 false) (aw Tryz.prog .gtr 3 false false bB.1 cm.1 cm.2) (some (ag,cm.2))) λbN=>ah (bu bw.1 (.bool true) bN.1 bN.2) λbV=>bg bV.1 (ah (bD Tryz.prog 27 [] bV.2) λcj=>ah (bP 5 r2.1 cj.1 cj.2) λcd=>aF Tryz.prog [(r2.1,some 27),((.af 7),none)] cd.2) (ah (aO 0 r1.1 bV.2) λbO=>ah (bA 4 bO.1 bO.2) λbW=>ah (aO 4 r1.1 bW.2) λcz=>ah (aK cz.1 cz.2) λcn=>ah (fh Tryz.prog 25 cn.1 none (some x1) none cn.2) λcx=>ah (call (cO 26) [bW.1] cx.2) λcE=>aQ (rE true (aK cz.1 cE.2) cn.1&&true) (ah (call (cO 27) [cx.1] cE.2) λcH=>ah (bD Tryz.prog 27 [(0,cE.1),(1,cH.1)] cH.2) λcZ=>ah (bP 5 r2.1 cZ.1 cZ.2) λcX=>aF Tryz.prog [(r2.1,some 27),((.af 0),none)] cX.2) none))
def EC{x0 x1:ae}{W:AW}{r:ae×AW}(h:CK bm x0 x1 W=some r):bm (.func (.func 12) #[] #[]) [x0,x1] W=some (gc W r):=bH (nt:=36) (n:=2) (by kernel_rfl) (by kernel_rfl) rfl (aJ (by kernel_rfl) h)
def ox(call:Eng.Callee)(R:Nat->ae)(W:AW):Option LT:=ah (aw Tryz.prog .lss 3 false false (R 36) (R 35) W) λcn=>bg cn.1 (ah (gn 31 (R 34) (R 36) cn.2) λcx=>ah (bA 31 cx.1 cx.2) λcE=>ah (aY Tryz.prog 98 cE.2) λcH=>ah (bP 31 cH.1 cE.1 cH.2) λcZ=>ah (aO 0 cH.1 cZ.2) λcX=>ah (aK cX.1 cX.2) λdm=>ah (aw Tryz.prog .eql 3 false true dm.1 (.af 2) dm.2) λcU=>ah (aQ (aU cU.1 true) (aO 4 cH.1 cU.2) (some (ag,cU.2))) λdN=>ah (aQ (aU cU.1 true) (aK dN.1 dN.2) (some (ag,dN.2))) λdK=>ah (aQ (aU cU.1 true) (iT (R 1) dK.2) (some (ag,dK.2))) λdY=>ah (aQ (aU cU.1 true) (aw Tryz.prog .eql 3 false false dK.1 dY.1 dY.2) (some (ag,dY.2))) λdC=>ah (bu cU.1 dC.1 (.bool false) dC.2) λdv=>bg dv.1 (ah (aO 3 cH.1 dv.2) λdT=>ah (aK dT.1 dT.2) λdU=>ah (aO 1 cH.1 dU.2) λez=>ah (aK ez.1 ez.2) λfU=>ah (bD Tryz.prog 53 [(0,dU.1),(1,fU.1),(2,(.af (-1)))] fU.2) λfB=>ah (aD Tryz.prog 49 1 [(0,fB.1)] fB.2) λfA=>ah (aN Tryz.prog fA.2 #[49,49] (R 8) fA.1) λgd=>ah (aw Tryz.prog .add 3 false true (R 36) (.af 1) gd.2) λfS=>some (X.normal,(bi R [(37,cn.1),(38,cx.1),(39,cE.1),(10,cH.1),(41,cX.1),(42,dm.1),(43,cU.1),(44,cU.1),(45,dN.1),(46,dK.1),(47,dY.1),(48,dC.1),(49,dv.1),(40,dv.1),(50,(R 8)),(51,dT.1),(52,dU.1),(53,ez.1),(54,fU.1),(55,fB.1),(56,fA.1),(57,gd.1),(8,gd.1),(76,fS.1),(36,fS.1)]),fS.2)) (ah (aO 0 cH.1 dv.2) λgX=>ah (aK gX.1 gX.2) λgG=>ah (aw Tryz.prog .eql 3 false true gG.1 (.af 4) gG.2) λfH=>ah (aQ (aU fH.1 true) (aO 4 cH.1 fH.2) (some (ag,fH.2))) λiH=>ah (aQ (aU fH.1 true) (aK iH.1 iH.2) (some (ag,iH.2))) λjB=>ah (aQ (aU fH.1 true) (iT (R 1) jB.2) (some (ag,jB.2))) λi9=>ah (aQ (aU fH.1 true) (aw Tryz.prog .eql 3 false false jB.1 i9.1 i9.2) (some (ag,i9.2))) λkW=>ah (bu fH.1 kW.1 (.bool false) kW.2) λj0=>bg j0.1 (ah (aB Tryz.prog .len #[49] 3 #[false] [(R 8)] j0.2) λlq=>ah (aw Tryz.prog .sub 3 false true lq.1 (.af 1) lq.2) λlT=>ah (aO 1 cH.1 lT.2) λkY=>ah (aK kY.1 kY.2) λj6=>ah (gn 3 (R 8) lT.1 j6.2) λpi=>ah (aO 2 pi.1 pi.2) λlz=>ah (bP 1 lz.1 j6.1 lz.2) λoh=>ah (aw Tryz.prog .add 3 false true (R 36) (.af 1) oh.2) λo6=>some (X.normal,(bi R [(37,cn.1),(38,cx.1),(39,cE.1),(10,cH.1),(41,cX.1),(42,dm.1),(43,cU.1),(44,cU.1),(45,dN.1),(46,dK.1),(47,dY.1),(48,dC.1),(49,dv.1),(40,dv.1),(59,gX.1),(60,gG.1),(61,fH.1),(62,fH.1),(63,iH.1),(64,jB.1),(65,i9.1),(66,kW.1),(67,j0.1),(58,j0.1),(68,(R 8)),(69,(R 8)),(70,lq.1),(71,lT.1),(72,kY.1),(73,j6.1),(74,pi.1),(75,lz.1),(76,o6.1),(36,o6.1)]),o6.2)) (ah (aw Tryz.prog .add 3 false true (R 36) (.af 1) j0.2) λmR=>some (X.normal,(bi R [(37,cn.1),(38,cx.1),(39,cE.1),(10,cH.1),(41,cX.1),(42,dm.1),(43,cU.1),(44,cU.1),(45,dN.1),(46,dK.1),(47,dY.1),(48,dC.1),(49,dv.1),(40,dv.1),(59,gX.1),(60,gG.1),(61,fH.1),(62,fH.1),(63,iH.1),(64,jB.1),(65,i9.1),(66,kW.1),(67,j0.1),(58,j0.1),(76,mR.1),(36,mR.1)]),mR.2)))) (some (X.exit 0,(eP R (some 37) cn.1),cn.2))
def AL(call:Eng.Callee)(x0 x1:ae)(W:AW):Option (ae×AW):=ah (cD x0 W) λr1=>ah (bA 5 r1.1 r1.2) λr2=>ah (call (cO 8) [r2.1] r2.2) λr3=>ah (ap r3.1 0 r3.2) λr4=>ah (ap r3.1 1 r4.2) λr5=>ah (aw Tryz.prog .neq 30 false true r5.1 (.af 0) r5.2) λr6=>bg r6.1 (aF Tryz.prog [((.slice none 0 0),none),(r5.1,none)] r6.2) (ah (aw Tryz.prog .lss 3 false true x1 (.af 0) r6.2) λr7=>ah (aQ (aU r7.1 false) (iT x1 r7.2) (some (ag,r7.2))) λr8=>ah (aQ (aU r7.1 false) (aO 0 r1.1 r8.2) (some (ag,r8.2))) λr9=>ah (aQ (aU r7.1 false) (aO 0 r9.1 r9.2) (some (ag,r9.2))) λbw=>ah (aQ (aU r7.1 false) (aK bw.1 bw.2) (some (ag,bw.2))) λbB=>ah (aQ (aU r7.1 false) (aO 0 r1.1 bB.2) (some (ag,bB.2))) λbQ=>ah (aQ (aU r7.1 false) (aO 3 bQ.1 bQ.2) (some (ag,bQ.2))) λbS=>ah (aQ (aU r7.1 false) (aK bS.1 bS.2) (some (ag,bS.2))) λcm=>ah (aQ (aU r7.1 false) (aB Tryz.prog .len #[22] 3 #[false] [cm.1] cm.2) (some (ag,cm.2))) λbN=>ah (aQ (aU r7.1 false) (aw Tryz.prog .add 3 false false bB.1 bN.1 bN.2) (some (ag,bN.2))) λbV=>ah (aQ (aU r7.1 false) (aw Tryz.prog .geq 3 false false r8.1 bV.1 bV.2) (some (ag,bV.2))) λcj=>ah (bu r7.1 (.bool true) cj.1 cj.2) λcd=>bg cd.1 (aF Tryz.prog [((.slice none 0 0),none),((.af 4),none)] cd.2) (ah (aO 4 r1.1 cd.2) λbO=>ah (aK bO.1 bO.2) λbW=>ah (aB Tryz.prog .len #[25] 3 #[false] [bW.1] bW.2) λcz=>ah (cW (ox call) (bi (dp 0 [x0,x1] ak.blank) [(2,r1.1),(4,(.slice none 0 0)),(5,(.af 0)),(12,r2.1),(13,r3.1),(11,r3.1),(14,r4.1),(15,r5.1),(6,r4.1),(7,r5.1),(16,r5.1),(17,r6.1),(19,x1),(20,r7.1),(21,r7.1),(22,r8.1),(23,r9.1),(24,bw.1),(25,bB.1),(26,bQ.1),(27,bS.1),(28,cm.1),(29,bN.1),(30,bV.1),(31,cj.1),(32,cd.1),(8,(.slice none 0 0)),(33,bO.1),(34,bW.1),(35,cz.1),(36,(.af 0))]) cz.2) λph=>di 0 ph.1 (aF Tryz.prog [((ph.2.1 8),none),((.af 0),none)] ph.2.2) (none)))
def Ed{x0 x1:ae}{W:AW}{r:ae×AW}(h:AL bm x0 x1 W=some r):bm (.func (.func 13) #[] #[]) [x0,x1] W=some (gc W r):=bH (nt:=78) (n:=2) (by kernel_rfl) (by kernel_rfl) rfl (aJ (by kernel_rfl) h)
def gN(call:Eng.Callee)(JR:Nat->ae)(J1 J9 J10 X0:ae)(W:AW):Option LT:=ah (aO 0 X0 W) λbW=>ah (aK bW.1 bW.2) λcz=>ah (aw Tryz.prog .eql 3 false true cz.1 (.af 4) cz.2) λcn=>ah (aQ (aU cn.1 true) (aO 4 X0 cn.2) (some (ag,cn.2))) λcx=>ah (aQ (aU cn.1 true) (aK cx.1 cx.2) (some (ag,cx.2))) λcE=>ah (aQ (aU cn.1 true) (iT J1 cE.2) (some (ag,cE.2))) λcH=>ah (aQ (aU cn.1 true) (aw Tryz.prog .eql 3 false false cE.1 cH.1 cH.2) (some (ag,cH.2))) λcZ=>ah (bu cn.1 cZ.1 (.bool false) cZ.2) λcX=>bg cX.1 (ah (aB Tryz.prog .len #[49] 3 #[false] [J9] cX.2) λdm=>ah (aw Tryz.prog .sub 3 false true dm.1 (.af 1) dm.2) λcU=>ah (aO 1 X0 cU.2) λdN=>ah (aK dN.1 dN.2) λdK=>ah (gn 3 J9 cU.1 dK.2) λdY=>ah (aO 2 dY.1 dY.2) λdC=>ah (bP 1 dC.1 dK.1 dC.2) λdv=>ah (aw Tryz.prog .add 3 false true J10 (.af 1) dv.2) λdT=>some (X.normal,(bi JR [(63,bW.1),(64,cz.1),(65,cn.1),(66,cn.1),(67,cx.1),(68,cE.1),(69,cH.1),(70,cZ.1),(71,cX.1),(72,J9),(73,J9),(74,dm.1),(75,cU.1),(76,dN.1),(77,dK.1),(78,dY.1),(79,dC.1),(39,J10),(40,dT.1),(10,dT.1)]),dT.2)) (ah (aw Tryz.prog .add 3 false true J10 (.af 1) cX.2) λdU=>some (X.normal,(bi JR [(63,bW.1),(64,cz.1),(65,cn.1),(66,cn.1),(67,cx.1),(68,cE.1),(69,cH.1),(70,cZ.1),(71,cX.1),(39,J10),(40,dU.1),(10,dU.1)]),dU.2))
def mg(call:Eng.Callee)(R:Nat->ae)(W:AW):Option LT:=ah (aO 4 (R 2) W) λbw=>ah (aK bw.1 bw.2) λbB=>ah (aB Tryz.prog .len #[25] 3 #[false] [bB.1] bB.2) λbQ=>ah (aw Tryz.prog .lss 3 false false (R 10) bQ.1 bQ.2) λbS=>bg bS.1 (ah (aO 4 (R 2) bS.2) λcm=>ah (aK cm.1 cm.2) λbN=>ah (gn 31 bN.1 (R 10) bN.2) λbV=>ah (bA 31 bV.1 bV.2) λcj=>ah (aY Tryz.prog 98 cj.2) λcd=>ah (bP 31 cd.1 cj.1 cd.2) λbO=>ah (aO 0 cd.1 bO.2) λez=>ah (aK ez.1 ez.2) λfU=>ah (aw Tryz.prog .eql 3 false true fU.1 (.af 2) fU.2) λfB=>ah (aQ (aU fB.1 true) (aO 4 cd.1 fB.2) (some (ag,fB.2))) λfA=>ah (aQ (aU fB.1 true) (aK fA.1 fA.2) (some (ag,fA.2))) λgd=>ah (aQ (aU fB.1 true) (iT (R 1) gd.2) (some (ag,gd.2))) λfS=>ah (aQ (aU fB.1 true) (aw Tryz.prog .eql 3 false false gd.1 fS.1 fS.2) (some (ag,fS.2))) λgX=>ah (bu fB.1 gX.1 (.bool false) gX.2) λgG=>bg gG.1 (ah (aO 3 cd.1 gG.2) λfH=>ah (aK fH.1 fH.2) λiH=>ah (aO 1 cd.1 iH.2) λjB=>ah (aK jB.1 jB.2) λi9=>ah (bD Tryz.prog 53 [(0,iH.1),(1,i9.1),(2,(.af (-1)))] i9.2) λkW=>ah (aD Tryz.prog 49 1 [(0,kW.1)] kW.2) λj0=>ah (aN Tryz.prog j0.2 #[49,49] (R 9) j0.1) λlq=>gN call (bi R [(34,(R 10)),(35,bw.1),(36,bB.1),(37,bQ.1),(38,bS.1),(41,cm.1),(42,bN.1),(43,(R 10)),(44,bV.1),(45,cj.1),(11,cd.1),(46,ez.1),(47,fU.1),(48,fB.1),(49,fB.1),(50,fA.1),(51,gd.1),(52,fS.1),(53,gX.1),(54,gG.1),(55,(R 9)),(56,fH.1),(57,iH.1),(58,jB.1),(59,i9.1),(60,kW.1),(61,j0.1),(62,lq.1),(9,lq.1)]) (R 1) lq.1 (R 10) cd.1 lq.2) (gN call (bi R [(34,(R 10)),(35,bw.1),(36,bB.1),(37,bQ.1),(38,bS.1),(41,cm.1),(42,bN.1),(43,(R 10)),(44,bV.1),(45,cj.1),(11,cd.1),(46,ez.1),(47,fU.1),(48,fB.1),(49,fB.1),(50,fA.1),(51,gd.1),(52,fS.1),(53,gX.1),(54,gG.1)]) (R 1) (R 9) (R 10) cd.1 gG.2)) (some (X.exit 0,(bi R [(34,(R 10)),(35,bw.1),(36,bB.1),(37,bQ.1),(38,bS.1)]),bS.2))
def iv(call:Eng.Callee)(JR:Nat->ae)(J8:ae)(W:AW):Option (ae×AW):=ah (aw Tryz.prog .neq 30 false true J8 (.af 0) W) λr9=>bg r9.1 (aF Tryz.prog [((.slice none 0 0),none),(J8,none)] r9.2) (ah (cW (mg call) (bi JR [(31,J8),(32,r9.1),(9,(.slice none 0 0)),(10,(.af 0))]) r9.2) λlT=>di 0 lT.1 (aF Tryz.prog [((lT.2.1 9),none),((.af 0),none)] lT.2.2) (none))
def Ck(call:Eng.Callee)(x0 x1:ae)(W:AW):Option (ae×AW):=ah (cD x0 W) λr1=>ah (bA 5 r1.1 r1.2) λr2=>ah (call (cO 25) [r2.1] r2.2) λr3=>ah (ap r3.1 0 r3.2) λr4=>ah (ap r3.1 1 r4.2) λr5=>ah (ap r3.1 2 r5.2) λr6=>ah (aY Tryz.prog 88 r6.2) λr7=>ah (bP 204 r7.1 r4.1 r7.2) λr8=>ah (aw Tryz.prog .eql 30 false true r6.1 (.af 0) r8.2) λkY=>ah (aQ (aU kY.1 true) (iT x1 kY.2) (some (ag,kY.2))) λj6=>ah (aQ (aU kY.1 true) (aw Tryz.prog .lss 3 false true j6.1 (.af 0) j6.2) (some (ag,j6.2))) λpi=>ah (aQ (aU kY.1 true) (iT pi.1 pi.2) (some (ag,pi.2))) λlz=>ah (aQ (aU lz.1 false) (iT x1 lz.2) (some (ag,lz.2))) λoh=>ah (aQ (aU lz.1 false) (aO 201 r7.1 oh.2) (some (ag,oh.2))) λo6=>ah (aQ (aU lz.1 false) (aK o6.1 o6.2) (some (ag,o6.2))) λmR=>ah (aQ (aU lz.1 false) (aB Tryz.prog .len #[64] 3 #[false] [mR.1] mR.2) (some (ag,mR.2))) λph=>ah (aQ (aU lz.1 false) (aw Tryz.prog .geq 3 false false oh.1 ph.1 ph.2) (some (ag,ph.2))) λpe=>ah (aQ (aU kY.1 true) (bu lz.1 (.bool true) pe.1 pe.2) (some (ag,pe.2))) λuu=>ah (bu kY.1 uu.1 (.bool false) uu.2) λrF=>bg rF.1 (iv call (bi (dp 0 [x0,x1] ak.blank) [(2,r1.1),(4,(.slice none 0 0)),(5,(.af 0)),(13,r2.1),(14,r3.1),(12,r3.1),(15,r4.1),(16,r5.1),(17,r6.1),(6,r7.1),(7,r5.1),(8,r6.1),(18,r6.1),(19,kY.1),(20,kY.1),(21,j6.1),(22,pi.1),(23,lz.1),(24,oh.1),(25,o6.1),(26,mR.1),(27,ph.1),(28,pe.1),(29,uu.1),(30,rF.1),(8,(.af 4))]) (.af 4) rF.2) (iv call (bi (dp 0 [x0,x1] ak.blank) [(2,r1.1),(4,(.slice none 0 0)),(5,(.af 0)),(13,r2.1),(14,r3.1),(12,r3.1),(15,r4.1),(16,r5.1),(17,r6.1),(6,r7.1),(7,r5.1),(8,r6.1),(18,r6.1),(19,kY.1),(20,kY.1),(21,j6.1),(22,pi.1),(23,lz.1),(24,oh.1),(25,o6.1),(26,mR.1),(27,ph.1),(28,pe.1),(29,uu.1),(30,rF.1)]) r6.1 rF.2)
def Ey{x0 x1:ae}{W:AW}{r:ae×AW}(h:Ck bm x0 x1 W=some r):bm (.func (.func 14) #[] #[]) [x0,x1] W=some (gc W r):=bH (nt:=81) (n:=2) (by kernel_rfl) (by kernel_rfl) rfl (aJ (by kernel_rfl) h)
def oE(call:Eng.Callee)(R:Nat->ae)(W:AW):Option LT:=ah (aB Tryz.prog .len #[49] 3 #[false] [(R 0)] W) λr4=>ah (aw Tryz.prog .lss 3 false false (R 5) r4.1 r4.2) λr5=>bg r5.1 (ah (gn 3 (R 0) (R 5) r5.2) λr6=>ah (bA 3 r6.1 r6.2) λr7=>ah (gn 3 (R 1) (R 5) r7.2) λr8=>ah (bA 3 r8.1 r8.2) λr9=>ah (aw Tryz.prog .neq 53 false false r7.1 r9.1 r9.2) λbw=>bg bw.1 (some (X.ret,(bi R [(11,(R 5)),(12,(R 0)),(13,r4.1),(14,r5.1),(17,(R 0)),(18,(R 5)),(19,r6.1),(20,r7.1),(21,(R 1)),(22,(R 5)),(23,r8.1),(24,r9.1),(25,bw.1),(4,(.bool false))]),bw.2)) (ah (aw Tryz.prog .add 3 false true (R 5) (.af 1) bw.2) λbB=>some (X.normal,(bi R [(11,(R 5)),(12,(R 0)),(13,r4.1),(14,r5.1),(17,(R 0)),(18,(R 5)),(19,r6.1),(20,r7.1),(21,(R 1)),(22,(R 5)),(23,r8.1),(24,r9.1),(25,bw.1),(15,(R 5)),(16,bB.1),(5,bB.1)]),bB.2))) (some (X.exit 0,(bi R [(11,(R 5)),(12,(R 0)),(13,r4.1),(14,r5.1)]),r5.2))
def Aj(call:Eng.Callee)(x0 x1:ae)(W:AW):Option (ae×AW):=ah (aB Tryz.prog .len #[49] 3 #[false] [x0] W) λr1=>ah (aB Tryz.prog .len #[49] 3 #[false] [x1] r1.2) λr2=>ah (aw Tryz.prog .neq 3 false false r1.1 r2.1 r2.2) λr3=>bg r3.1 (aF Tryz.prog [((.bool false),none)] r3.2) (ah (cW (oE call) (bi (dp 0 [x0,x1] ak.blank) [(4,(.bool false)),(6,x0),(7,r1.1),(8,x1),(9,r2.1),(10,r3.1),(5,(.af 0))]) r3.2) λbQ=>di 0 bQ.1 (aF Tryz.prog [((.bool true),none)] bQ.2.2) (iq bQ.1 (aF Tryz.prog [((bQ.2.1 4),none)] bQ.2.2)))
def CO{x0 x1:ae}{W:AW}{r:ae×AW}(h:Aj bm x0 x1 W=some r):bm (.func (.func 15) #[] #[]) [x0,x1] W=some (gc W r):=bH (nt:=26) (n:=2) (by kernel_rfl) (by kernel_rfl) rfl (aJ (by kernel_rfl) h)
def kv(call:Eng.Callee)(R:Nat->ae)(W:AW):Option LT:=ah (aw Tryz.prog .lss 3 false false (R 20) (R 19) W) λbw=>bg bw.1 (ah (gn 31 (R 18) (R 20) bw.2) λbB=>ah (bA 31 bB.1 bB.2) λbQ=>ah (aY Tryz.prog 98 bQ.2) λbS=>ah (bP 31 bS.1 bQ.1 bS.2) λcm=>ah (aO 0 bS.1 cm.2) λbN=>ah (aK bN.1 bN.2) λbV=>ah (aw Tryz.prog .eql 3 false true bV.1 (.af 6) bV.2) λcj=>bg cj.1 (ah (aO 26 bS.1 cj.2) λcd=>ah (bA 5 cd.1 cd.2) λbO=>ah (aD Tryz.prog 56 1 [(0,bO.1)] bO.2) λbW=>ah (aN Tryz.prog bW.2 #[56,56] (R 6) bW.1) λcz=>ah (aw Tryz.prog .add 3 false true (R 20) (.af 1) cz.2) λcn=>some (X.normal,(bi R [(21,bw.1),(22,bB.1),(23,bQ.1),(8,bS.1),(24,bN.1),(25,bV.1),(26,cj.1),(27,(R 6)),(28,cd.1),(29,bO.1),(30,bW.1),(31,cz.1),(6,cz.1),(32,cn.1),(20,cn.1)]),cn.2)) (ah (aw Tryz.prog .add 3 false true (R 20) (.af 1) cj.2) λcx=>some (X.normal,(bi R [(21,bw.1),(22,bB.1),(23,bQ.1),(8,bS.1),(24,bN.1),(25,bV.1),(26,cj.1),(32,cx.1),(20,cx.1)]),cx.2))) (some (X.exit 0,(eP R (some 21) bw.1),bw.2))
def uD(call:Eng.Callee)(x0:ae)(W:AW):Option (ae×AW):=ah (cD x0 W) λr1=>ah (bA 5 r1.1 r1.2) λr2=>ah (call (cO 8) [r2.1] r2.2) λr3=>ah (ap r3.1 0 r3.2) λr4=>ah (ap r3.1 1 r4.2) λr5=>ah (aw Tryz.prog .neq 30 false true r5.1 (.af 0) r5.2) λr6=>bg r6.1 (aF Tryz.prog [((.slice none 0 0),none),(r5.1,none)] r6.2) (ah (aO 4 r1.1 r6.2) λr7=>ah (aK r7.1 r7.2) λr8=>ah (aB Tryz.prog .len #[25] 3 #[false] [r8.1] r8.2) λr9=>ah (cW (kv call) (bi (dp 0 [x0] ak.blank) [(1,r1.1),(2,(.slice none 0 0)),(3,(.af 0)),(10,r2.1),(11,r3.1),(9,r3.1),(12,r4.1),(13,r5.1),(4,r4.1),(5,r5.1),(14,r5.1),(15,r6.1),(6,(.slice none 0 0)),(17,r7.1),(18,r8.1),(19,r9.1),(20,(.af 0))]) r9.2) λcE=>di 0 cE.1 (aF Tryz.prog [((cE.2.1 6),none),((.af 0),none)] cE.2.2) (none))
def xh{x0:ae}{W:AW}{r:ae×AW}(h:uD bm x0 W=some r):bm (.func (.func 16) #[] #[]) [x0] W=some (gc W r):=bH (nt:=34) (n:=1) (by kernel_rfl) (by kernel_rfl) rfl (aJ (by kernel_rfl) h)
def lQ(call:Eng.Callee)(R:Nat->ae)(W:AW):Option LT:=ah (aO 4 (R 1) W) λr7=>ah (aK r7.1 r7.2) λr8=>ah (aB Tryz.prog .len #[25] 3 #[false] [r8.1] r8.2) λr9=>ah (aw Tryz.prog .lss 3 false false (R 7) r9.1 r9.2) λbw=>bg bw.1 (ah (aO 4 (R 1) bw.2) λbB=>ah (aK bB.1 bB.2) λbQ=>ah (gn 31 bQ.1 (R 7) bQ.2) λbS=>ah (aO 0 bS.1 bS.2) λcm=>ah (aK cm.1 cm.2) λbN=>ah (aw Tryz.prog .eql 3 false true bN.1 (.af 6) bN.2) λbV=>bg bV.1 (ah (aO 4 (R 1) bV.2) λcj=>ah (aK cj.1 cj.2) λcd=>ah (gn 31 cd.1 (R 7) cd.2) λbO=>ah (aO 26 bO.1 bO.2) λbW=>ah (bA 5 bW.1 bW.2) λcz=>ah (aD Tryz.prog 56 1 [(0,cz.1)] cz.2) λcn=>ah (aN Tryz.prog cn.2 #[56,56] (R 6) cn.1) λcx=>ah (aw Tryz.prog .add 3 false true (R 7) (.af 1) cx.2) λcE=>some (X.normal,(bi R [(16,(R 7)),(17,r7.1),(18,r8.1),(19,r9.1),(20,bw.1),(23,bB.1),(24,bQ.1),(25,(R 7)),(26,bS.1),(27,cm.1),(28,bN.1),(29,bV.1),(30,(R 6)),(31,cj.1),(32,cd.1),(33,(R 7)),(34,bO.1),(35,bW.1),(36,cz.1),(37,cn.1),(38,cx.1),(6,cx.1),(21,(R 7)),(22,cE.1),(7,cE.1)]),cE.2)) (ah (aw Tryz.prog .add 3 false true (R 7) (.af 1) bV.2) λcH=>some (X.normal,(bi R [(16,(R 7)),(17,r7.1),(18,r8.1),(19,r9.1),(20,bw.1),(23,bB.1),(24,bQ.1),(25,(R 7)),(26,bS.1),(27,cm.1),(28,bN.1),(29,bV.1),(21,(R 7)),(22,cH.1),(7,cH.1)]),cH.2))) (some (X.exit 0,(bi R [(16,(R 7)),(17,r7.1),(18,r8.1),(19,r9.1),(20,bw.1)]),bw.2))
def vO(call:Eng.Callee)(x0:ae)(W:AW):Option (ae×AW):=ah (cD x0 W) λr1=>ah (bA 5 r1.1 r1.2) λr2=>ah (call (cO 9) [r2.1] r2.2) λr3=>ah (ap r3.1 0 r3.2) λr4=>ah (ap r3.1 1 r4.2) λr5=>ah (aw Tryz.prog .neq 30 false true r5.1 (.af 0) r5.2) λr6=>bg r6.1 (aF Tryz.prog [((.slice none 0 0),none),(r5.1,none)] r6.2) (ah (cW (lQ call) (bi (dp 0 [x0] ak.blank) [(1,r1.1),(2,(.slice none 0 0)),(3,(.af 0)),(9,r2.1),(10,r3.1),(8,r3.1),(11,r4.1),(12,r5.1),(4,r4.1),(5,r5.1),(13,r5.1),(14,r6.1),(6,(.slice none 0 0)),(7,(.af 0))]) r6.2) λcZ=>di 0 cZ.1 (aF Tryz.prog [((cZ.2.1 6),none),((.af 0),none)] cZ.2.2) (none))
def zE{x0:ae}{W:AW}{r:ae×AW}(h:vO bm x0 W=some r):bm (.func (.func 17) #[] #[]) [x0] W=some (gc W r):=bH (nt:=40) (n:=1) (by kernel_rfl) (by kernel_rfl) rfl (aJ (by kernel_rfl) h)
def i7(call:Eng.Callee)(J1 J2 J4 J7:ae)(W:AW):Option (ae×AW):=ah (aw Tryz.prog .neq 30 false true J7 (.af 0) W) λr7=>bg r7.1 (ah (bD Tryz.prog 27 [] r7.2) λr8=>ah (bP 5 J4 r8.1 r8.2) λr9=>aF Tryz.prog [(J4,some 27),(J7,none)] r9.2) (ah (aO 0 J2 r7.2) λbw=>ah (bA 4 bw.1 bw.2) λbB=>ah (aD Tryz.prog 25 0 [] bB.2) λbQ=>ah (aO 4 J2 bQ.2) λbS=>ah (aK bS.1 bS.2) λcm=>ah (fh Tryz.prog 25 cm.1 none (some J1) none cm.2) λbN=>ah (call (cO 28) [bB.1] bN.2) λbV=>aQ (rE true (aK bS.1 bV.2) cm.1&&true) (ah (aN Tryz.prog bV.2 #[25,25] bQ.1 bN.1) λcj=>ah (bD Tryz.prog 27 [(0,bV.1),(1,cj.1)] cj.2) λcd=>ah (bP 5 J4 cd.1 cd.2) λbO=>aF Tryz.prog [(J4,some 27),((.af 0),none)] bO.2) none)
def FB(call:Eng.Callee)(x0 x1:ae)(W:AW):Option (ae×AW):=ah (cD x0 W) λr1=>ah (aY Tryz.prog 27 r1.2) λr2=>ah (bA 5 r1.1 r2.2) λr3=>ah (call (cO 9) [r3.1] r3.2) λr4=>ah (ap r4.1 0 r4.2) λr5=>ah (ap r4.1 1 r5.2) λr6=>ah (aw Tryz.prog .eql 30 false true r6.1 (.af 0) r6.2) λbW=>ah (aQ (aU bW.1 true) (iT x1 bW.2) (some (ag,bW.2))) λcz=>ah (aQ (aU bW.1 true) (aw Tryz.prog .lss 3 false true cz.1 (.af 0) cz.2) (some (ag,cz.2))) λcn=>ah (aQ (aU bW.1 true) (iT cn.1 cn.2) (some (ag,cn.2))) λcx=>ah (aQ (aU cx.1 false) (iT x1 cx.2) (some (ag,cx.2))) λcE=>ah (aQ (aU cx.1 false) (aO 4 r1.1 cE.2) (some (ag,cE.2))) λcH=>ah (aQ (aU cx.1 false) (aK cH.1 cH.2) (some (ag,cH.2))) λcZ=>ah (aQ (aU cx.1 false) (aB Tryz.prog .len #[25] 3 #[false] [cZ.1] cZ.2) (some (ag,cZ.2))) λcX=>ah (aQ (aU cx.1 false) (aw Tryz.prog .gtr 3 false false cE.1 cX.1 cX.2) (some (ag,cX.2))) λdm=>ah (aQ (aU bW.1 true) (bu cx.1 (.bool true) dm.1 dm.2) (some (ag,dm.2))) λcU=>ah (bu bW.1 cU.1 (.bool false) cU.2) λdN=>bg dN.1 (i7 call x1 r1.1 r2.1 (.af 7) dN.2) (i7 call x1 r1.1 r2.1 r6.1 dN.2)
def HI{x0 x1:ae}{W:AW}{r:ae×AW}(h:FB bm x0 x1 W=some r):bm (.func (.func 18) #[] #[]) [x0,x1] W=some (gc W r):=bH (nt:=40) (n:=2) (by kernel_rfl) (by kernel_rfl) rfl (aJ (by kernel_rfl) h)
def qz(call:Eng.Callee)(R:Nat->ae)(W:AW):Option LT:=ah (aO 4 (R 2) W) λcj=>ah (aK cj.1 cj.2) λcd=>ah (aB Tryz.prog .len #[25] 3 #[false] [cd.1] cd.2) λbO=>ah (aw Tryz.prog .lss 3 false false (R 5) bO.1 bO.2) λbW=>bg bW.1 (ah (aO 4 (R 2) bW.2) λcz=>ah (aK cz.1 cz.2) λcn=>ah (gn 31 cn.1 (R 5) cn.2) λcx=>ah (bA 31 cx.1 cx.2) λcE=>ah (aO 4 (R 3) cE.2) λcH=>ah (aK cH.1 cH.2) λcZ=>ah (gn 31 cZ.1 (R 5) cZ.2) λcX=>ah (bA 31 cX.1 cX.2) λdm=>ah (aw Tryz.prog .neq 98 false false cE.1 dm.1 dm.2) λcU=>bg cU.1 (some (X.ret,(bi R [(21,(R 5)),(22,cj.1),(23,cd.1),(24,bO.1),(25,bW.1),(28,cz.1),(29,cn.1),(30,(R 5)),(31,cx.1),(32,cE.1),(33,cH.1),(34,cZ.1),(35,(R 5)),(36,cX.1),(37,dm.1),(38,cU.1),(4,(.bool false))]),cU.2)) (ah (aw Tryz.prog .add 3 false true (R 5) (.af 1) cU.2) λdN=>some (X.normal,(bi R [(21,(R 5)),(22,cj.1),(23,cd.1),(24,bO.1),(25,bW.1),(28,cz.1),(29,cn.1),(30,(R 5)),(31,cx.1),(32,cE.1),(33,cH.1),(34,cZ.1),(35,(R 5)),(36,cX.1),(37,dm.1),(38,cU.1),(26,(R 5)),(27,dN.1),(5,dN.1)]),dN.2))) (some (X.exit 0,(bi R [(21,(R 5)),(22,cj.1),(23,cd.1),(24,bO.1),(25,bW.1)]),bW.2))
def Cm(call:Eng.Callee)(x0 x1:ae)(W:AW):Option (ae×AW):=ah (cD x0 W) λr1=>ah (cD x1 r1.2) λr2=>ah (aO 0 r1.1 r2.2) λr3=>ah (bA 4 r3.1 r3.2) λr4=>ah (aO 0 r2.1 r4.2) λr5=>ah (bA 4 r5.1 r5.2) λr6=>ah (call (cO 29) [r4.1,r6.1] r6.2) λr7=>ah (BS Tryz.prog .not r7.1 r7.2) λr8=>ah (aQ (aU r8.1 false) (aO 4 r1.1 r8.2) (some (ag,r8.2))) λr9=>ah (aQ (aU r8.1 false) (aK r9.1 r9.2) (some (ag,r9.2))) λbw=>ah (aQ (aU r8.1 false) (aB Tryz.prog .len #[25] 3 #[false] [bw.1] bw.2) (some (ag,bw.2))) λbB=>ah (aQ (aU r8.1 false) (aO 4 r2.1 bB.2) (some (ag,bB.2))) λbQ=>ah (aQ (aU r8.1 false) (aK bQ.1 bQ.2) (some (ag,bQ.2))) λbS=>ah (aQ (aU r8.1 false) (aB Tryz.prog .len #[25] 3 #[false] [bS.1] bS.2) (some (ag,bS.2))) λcm=>ah (aQ (aU r8.1 false) (aw Tryz.prog .neq 3 false false bB.1 cm.1 cm.2) (some (ag,cm.2))) λbN=>ah (bu r8.1 (.bool true) bN.1 bN.2) λbV=>bg bV.1 (aF Tryz.prog [((.bool false),none)] bV.2) (ah (cW (qz call) (bi (dp 0 [x0,x1] ak.blank) [(2,r1.1),(3,r2.1),(4,(.bool false)),(6,r3.1),(7,r4.1),(8,r5.1),(9,r6.1),(10,r7.1),(11,r8.1),(12,r8.1),(13,r9.1),(14,bw.1),(15,bB.1),(16,bQ.1),(17,bS.1),(18,cm.1),(19,bN.1),(20,bV.1),(5,(.af 0))]) bV.2) λdK=>di 0 dK.1 (aF Tryz.prog [((.bool true),none)] dK.2.2) (iq dK.1 (aF Tryz.prog [((dK.2.1 4),none)] dK.2.2)))
def ES{x0 x1:ae}{W:AW}{r:ae×AW}(h:Cm bm x0 x1 W=some r):bm (.func (.func 19) #[] #[]) [x0,x1] W=some (gc W r):=bH (nt:=39) (n:=2) (by kernel_rfl) (by kernel_rfl) rfl (aJ (by kernel_rfl) h)
def m0(call:Eng.Callee)(R:Nat->ae)(W:AW):Option LT:=ah (aO 1 (R 5) W) λcH=>ah (aK cH.1 cH.2) λcZ=>ah (aB Tryz.prog .len #[64] 3 #[false] [cZ.1] cZ.2) λcX=>ah (aw Tryz.prog .lss 3 false false (R 6) cX.1 cX.2) λdm=>bg dm.1 (ah (aO 1 (R 5) dm.2) λcU=>ah (aK cU.1 cU.2) λdN=>ah (gn 1 dN.1 (R 6) dN.2) λdK=>ah (aK dK.1 dK.2) λdY=>ah (aw Tryz.prog .gtr 3 false true dY.1 (.af 0) dY.2) λdC=>ah (aQ (aU dC.1 true) (aO 1 (R 5) dC.2) (some (ag,dC.2))) λdv=>ah (aQ (aU dC.1 true) (aK dv.1 dv.2) (some (ag,dv.2))) λdT=>ah (aQ (aU dC.1 true) (iT (R 6) dT.2) (some (ag,dT.2))) λdU=>ah (aQ (aU dC.1 true) (gn 1 dT.1 dU.1 dU.2) (some (ag,dU.2))) λez=>ah (aQ (aU dC.1 true) (aK ez.1 ez.2) (some (ag,ez.2))) λfU=>ah (aQ (aU dC.1 true) (aw Tryz.prog .leq 3 false true fU.1 (.af 100) fU.2) (some (ag,fU.2))) λfB=>ah (bu dC.1 fB.1 (.bool false) fB.2) λfA=>bg fA.1 (ah (aO 1 (R 5) fA.2) λgd=>ah (aK gd.1 gd.2) λfS=>ah (gn 1 fS.1 (R 6) fS.2) λgX=>ah (aK gX.1 gX.2) λgG=>ah (aw Tryz.prog .add 3 false false (R 3) gG.1 gG.2) λfH=>ah (aw Tryz.prog .add 3 false true (R 6) (.af 1) fH.2) λiH=>some (X.normal,(bi R [(33,(R 6)),(34,cH.1),(35,cZ.1),(36,cX.1),(37,dm.1),(40,cU.1),(41,dN.1),(42,(R 6)),(43,dK.1),(44,dY.1),(45,dC.1),(46,dC.1),(47,dv.1),(48,dT.1),(49,dU.1),(50,ez.1),(51,fU.1),(52,fB.1),(53,fA.1),(54,(R 3)),(55,gd.1),(56,fS.1),(57,(R 6)),(58,gX.1),(59,gG.1),(60,fH.1),(3,fH.1),(38,(R 6)),(39,iH.1),(6,iH.1)]),iH.2)) (ah (aw Tryz.prog .add 3 false true (R 6) (.af 1) fA.2) λjB=>some (X.normal,(bi R [(33,(R 6)),(34,cH.1),(35,cZ.1),(36,cX.1),(37,dm.1),(40,cU.1),(41,dN.1),(42,(R 6)),(43,dK.1),(44,dY.1),(45,dC.1),(46,dC.1),(47,dv.1),(48,dT.1),(49,dU.1),(50,ez.1),(51,fU.1),(52,fB.1),(53,fA.1),(38,(R 6)),(39,jB.1),(6,jB.1)]),jB.2))) (some (X.exit 2,(bi R [(33,(R 6)),(34,cH.1),(35,cZ.1),(36,cX.1),(37,dm.1)]),dm.2))
def rY(call:Eng.Callee)(R:Nat->ae)(W:AW):Option LT:=ah (aO 3 (R 1) W) λr6=>ah (aK r6.1 r6.2) λr7=>ah (aB Tryz.prog .len #[22] 3 #[false] [r7.1] r7.2) λr8=>ah (aw Tryz.prog .lss 3 false false (R 4) r8.1 r8.2) λr9=>bg r9.1 (ah (aO 3 (R 1) r9.2) λbw=>ah (aK bw.1 bw.2) λbB=>ah (gn 3 bB.1 (R 4) bB.2) λbQ=>ah (bA 3 bQ.1 bQ.2) λbS=>ah (aY Tryz.prog 66 bS.2) λcm=>ah (bP 3 cm.1 bS.1 cm.2) λbN=>ah (aO 1 cm.1 bN.2) λbV=>ah (aK bV.1 bV.2) λcj=>ah (aB Tryz.prog .len #[64] 3 #[false] [cj.1] cj.2) λcd=>ah (aw Tryz.prog .gtr 3 false true cd.1 (.af 20) cd.2) λbO=>ah (aQ (aU bO.1 false) (aO 0 cm.1 bO.2) (some (ag,bO.2))) λbW=>ah (aQ (aU bO.1 false) (aK bW.1 bW.2) (some (ag,bW.2))) λcz=>ah (aQ (aU bO.1 false) (aB Tryz.prog .len #[9] 3 #[false] [cz.1] cz.2) (some (ag,cz.2))) λcn=>ah (aQ (aU bO.1 false) (aw Tryz.prog .gtr 3 false true cn.1 (.af 100) cn.2) (some (ag,cn.2))) λcx=>ah (bu bO.1 (.bool true) cx.1 cx.2) λcE=>bg cE.1 (some (X.ret,(bi R [(11,(R 4)),(12,r6.1),(13,r7.1),(14,r8.1),(15,r9.1),(18,bw.1),(19,bB.1),(20,(R 4)),(21,bQ.1),(22,bS.1),(5,cm.1),(23,bV.1),(24,cj.1),(25,cd.1),(26,bO.1),(27,bO.1),(28,bW.1),(29,cz.1),(30,cn.1),(31,cx.1),(32,cE.1),(2,(.bool true))]),cE.2)) (ah (cW (m0 call) (bi R [(11,(R 4)),(12,r6.1),(13,r7.1),(14,r8.1),(15,r9.1),(18,bw.1),(19,bB.1),(20,(R 4)),(21,bQ.1),(22,bS.1),(5,cm.1),(23,bV.1),(24,cj.1),(25,cd.1),(26,bO.1),(27,bO.1),(28,bW.1),(29,cz.1),(30,cn.1),(31,cx.1),(32,cE.1),(6,(.af 0))]) cE.2) λi9=>di 2 i9.1 (ah (aw Tryz.prog .add 3 false true (i9.2.1 4) (.af 1) i9.2.2) λkW=>some (X.normal,(bi i9.2.1 [(16,(i9.2.1 4)),(17,kW.1),(4,kW.1)]),kW.2)) (none))) (some (X.exit 0,(bi R [(11,(R 4)),(12,r6.1),(13,r7.1),(14,r8.1),(15,r9.1)]),r9.2))
def zK(call:Eng.Callee)(x0:ae)(W:AW):Option (ae×AW):=ah (cD x0 W) λr1=>ah (aO 3 r1.1 r1.2) λr2=>ah (aK r2.1 r2.2) λr3=>ah (aB Tryz.prog .len #[22] 3 #[false] [r3.1] r3.2) λr4=>ah (aw Tryz.prog .gtr 3 false true r4.1 (.af 10) r4.2) λr5=>bg r5.1 (aF Tryz.prog [((.bool true),none)] r5.2) (ah (cW (rY call) (bi (dp 0 [x0] ak.blank) [(1,r1.1),(2,(.bool false)),(7,r2.1),(8,r3.1),(9,r4.1),(10,r5.1),(3,(.af 0)),(4,(.af 0))]) r5.2) λj0=>di 0 j0.1 (ah (aw Tryz.prog .gtr 3 false true (j0.2.1 3) (.af 200) j0.2.2) λlq=>aF Tryz.prog [(lq.1,none)] lq.2) (iq j0.1 (aF Tryz.prog [((j0.2.1 2),none)] j0.2.2)))
def HY{x0:ae}{W:AW}{r:ae×AW}(h:zK bm x0 W=some r):bm (.func (.func 20) #[] #[]) [x0] W=some (gc W r):=bH (nt:=63) (n:=1) (by kernel_rfl) (by kernel_rfl) rfl (aJ (by kernel_rfl) h)
def iE(call:Eng.Callee)(JR:Nat->ae)(J9 X0 J37:ae)(W:AW):Option LT:=ah (aw Tryz.prog .neq 30 false true X0 (.af 0) W) λdT=>bg dT.1 (some (X.ret,(bi JR [(58,X0),(59,dT.1),(60,J9),(61,X0),(2,(.pointer none)),(3,J9),(4,X0)]),dT.2)) (ah (aw Tryz.prog .add 3 false true J37 (.af 1) dT.2) λdU=>some (X.normal,(bi JR [(58,X0),(59,dT.1),(62,dU.1),(37,dU.1)]),dU.2))
def kU(call:Eng.Callee)(R:Nat->ae)(W:AW):Option LT:=ah (aw Tryz.prog .lss 3 false false (R 37) (R 36) W) λcH=>bg cH.1 (ah (gn 31 (R 35) (R 37) cH.2) λcZ=>ah (bA 31 cZ.1 cZ.2) λcX=>ah (aY Tryz.prog 98 cX.2) λdm=>ah (bP 31 dm.1 cX.1 dm.2) λcU=>ah (be (R 7) cU.2) λdN=>ah (aO 10 dN.1 dN.2) λdK=>ah (bP 1 dK.1 (R 37) dK.2) λdY=>ah (bA 31 dm.1 dY.2) λdC=>ah (call (cO 35) [(R 7),dC.1] dC.2) λdv=>ah (aw Tryz.prog .eql 30 false true dv.1 (.af 0) dv.2) λez=>bg ez.1 (ah (aO 0 dm.1 ez.2) λfU=>ah (aK fU.1 fU.2) λfB=>ah (Gt 7 1 (R 8) fB.1 fB.2) λfA=>ah (aK fA.1 fA.2) λgd=>ah (bA 31 dm.1 gd.2) λfS=>ah (call gd.1 [(R 7),fS.1] fS.2) λgX=>iE call (bi R [(38,cH.1),(39,(R 37)),(40,cZ.1),(41,cX.1),(10,dm.1),(9,(R 37)),(42,(R 7)),(43,(R 37)),(44,dN.1),(45,dK.1),(46,(R 7)),(47,dC.1),(48,dv.1),(11,dv.1),(49,dv.1),(50,ez.1),(51,fU.1),(52,fB.1),(53,fA.1),(54,gd.1),(55,(R 7)),(56,fS.1),(57,gX.1),(11,gX.1)]) (R 37) gX.1 (R 37) gX.2) (iE call (bi R [(38,cH.1),(39,(R 37)),(40,cZ.1),(41,cX.1),(10,dm.1),(9,(R 37)),(42,(R 7)),(43,(R 37)),(44,dN.1),(45,dK.1),(46,(R 7)),(47,dC.1),(48,dv.1),(11,dv.1),(49,dv.1),(50,ez.1)]) (R 37) dv.1 (R 37) ez.2)) (some (X.exit 0,(eP R (some 38) cH.1),cH.2))
def uw(call:Eng.Callee)(x0:ae)(W:AW):Option (ae×AW):=ah (cD x0 W) λr1=>ah (aO 0 r1.1 r1.2) λr2=>ah (bA 4 r2.1 r2.2) λr3=>ah (call (cO 33) [r3.1] r3.2) λr4=>ah (ap r4.1 0 r4.2) λr5=>ah (ap r4.1 1 r5.2) λr6=>ah (aw Tryz.prog .neq 30 false true r6.1 (.af 0) r6.2) λr7=>bg r7.1 (aF Tryz.prog [((.pointer none),none),((.af (-1)),none),(r6.1,none)] r7.2) (ah (aO 4 r1.1 r7.2) λr8=>ah (aK r8.1 r8.2) λr9=>ah (aB Tryz.prog .len #[25] 3 #[false] [r9.1] r9.2) λbw=>ah (aw Tryz.prog .gtr 3 false true bw.1 (.af 2000) bw.2) λbB=>bg bB.1 (aF Tryz.prog [((.pointer none),none),((.af (-1)),none),((.af 3),none)] bB.2) (ah (bA 5 r1.1 bB.2) λbQ=>ah (oe Tryz.prog 91 none bQ.2) λbS=>ah (oe Tryz.prog 92 none bS.2) λcm=>ah (bD Tryz.prog 94 [(0,bQ.1),(2,bS.1),(3,cm.1),(5,(.af (-1)))] cm.2) λbN=>ah (cD bN.1 bN.2) λbV=>ah (call (cO 34) [] bV.2) λcj=>ah (aY Tryz.prog 110 cj.2) λcd=>ah (bP 7 cd.1 cj.1 cd.2) λbO=>ah (be bV.1 bO.2) λbW=>ah (aO 0 bW.1 bW.2) λcz=>ah (aO 4 cz.1 cz.2) λcn=>ah (aK cn.1 cn.2) λcx=>ah (aB Tryz.prog .len #[25] 3 #[false] [cx.1] cx.2) λcE=>ah (cW (kU call) (bi (dp 0 [x0] ak.blank) [(1,r1.1),(2,(.pointer none)),(3,(.af 0)),(4,(.af 0)),(13,r2.1),(14,r3.1),(15,r4.1),(12,r4.1),(16,r5.1),(17,r6.1),(5,r5.1),(6,r6.1),(18,r6.1),(19,r7.1),(21,r8.1),(22,r9.1),(23,bw.1),(24,bB.1),(25,bQ.1),(26,bS.1),(27,cm.1),(28,bN.1),(29,bV.1),(7,bV.1),(30,cj.1),(8,cd.1),(31,bV.1),(32,bW.1),(33,cz.1),(34,cn.1),(35,cx.1),(36,cE.1),(37,(.af 0))]) cE.2) λgG=>di 0 gG.1 (aF Tryz.prog [((gG.2.1 7),none),((.af 0),none),((.af 0),none)] gG.2.2) (iq gG.1 (aF Tryz.prog [((gG.2.1 2),none),((gG.2.1 3),none),((gG.2.1 4),none)] gG.2.2))))
def D8{x0:ae}{W:AW}{r:ae×AW}(h:uw bm x0 W=some r):bm (.func (.func 24) #[] #[]) [x0] W=some (gc W r):=bH (nt:=64) (n:=1) (by kernel_rfl) (by kernel_rfl) rfl (aJ (by kernel_rfl) h)
def mq(call:Eng.Callee)(R:Nat->ae)(W:AW):Option LT:=ah (aO 4 (R 1) W) λcz=>ah (aK cz.1 cz.2) λcn=>ah (aB Tryz.prog .len #[25] 3 #[false] [cn.1] cn.2) λcx=>ah (aw Tryz.prog .lss 3 false false (R 8) cx.1 cx.2) λcE=>bg cE.1 (ah (bA 204 (R 7) cE.2) λcH=>ah (call (cO 38) [cH.1,(R 8)] cH.2) λcZ=>ah (ap cZ.1 0 cZ.2) λcX=>ah (ap cZ.1 1 cX.2) λdm=>ah (aY Tryz.prog 88 dm.2) λcU=>ah (bP 204 cU.1 cX.1 cU.2) λdN=>ah (aw Tryz.prog .neq 30 false true dm.1 (.af 0) dN.2) λdK=>bg dK.1 (ah (bD Tryz.prog 88 [] dK.2) λdY=>ah (bP 204 (R 2) dY.1 dY.2) λdC=>some (X.ret,(bi R [(28,(R 8)),(29,cz.1),(30,cn.1),(31,cx.1),(32,cE.1),(36,cH.1),(37,(R 8)),(38,cZ.1),(35,cZ.1),(39,cX.1),(40,dm.1),(9,cU.1),(10,dm.1),(41,dm.1),(42,dK.1),(43,dY.1),(44,(R 8)),(45,dm.1),(3,(R 8)),(4,dm.1)]),dC.2)) (ah (bA 204 cU.1 dK.2) λdv=>ah (bP 204 (R 7) dv.1 dv.2) λdT=>ah (aw Tryz.prog .add 3 false true (R 8) (.af 1) dT.2) λdU=>some (X.normal,(bi R [(28,(R 8)),(29,cz.1),(30,cn.1),(31,cx.1),(32,cE.1),(36,cH.1),(37,(R 8)),(38,cZ.1),(35,cZ.1),(39,cX.1),(40,dm.1),(9,cU.1),(10,dm.1),(41,dm.1),(42,dK.1),(46,dv.1),(33,(R 8)),(34,dU.1),(8,dU.1)]),dU.2))) (some (X.exit 0,(bi R [(28,(R 8)),(29,cz.1),(30,cn.1),(31,cx.1),(32,cE.1)]),cE.2))
def wy(call:Eng.Callee)(x0:ae)(W:AW):Option (ae×AW):=ah (cD x0 W) λr1=>ah (aY Tryz.prog 88 r1.2) λr2=>ah (aO 0 r1.1 r2.2) λr3=>ah (bA 4 r3.1 r3.2) λr4=>ah (call (cO 36) [r4.1] r4.2) λr5=>ah (ap r5.1 0 r5.2) λr6=>ah (ap r5.1 1 r6.2) λr7=>ah (aw Tryz.prog .neq 30 false true r7.1 (.af 0) r7.2) λr8=>bg r8.1 (ah (bD Tryz.prog 88 [] r8.2) λr9=>ah (bP 204 r2.1 r9.1 r9.2) λbw=>aF Tryz.prog [(r2.1,some 88),((.af (-1)),none),(r7.1,none)] bw.2) (ah (aO 4 r1.1 r8.2) λbB=>ah (aK bB.1 bB.2) λbQ=>ah (aB Tryz.prog .len #[25] 3 #[false] [bQ.1] bQ.2) λbS=>ah (aw Tryz.prog .gtr 3 false true bS.1 (.af 2000) bS.2) λcm=>bg cm.1 (ah (bD Tryz.prog 88 [] cm.2) λbN=>ah (bP 204 r2.1 bN.1 bN.2) λbV=>aF Tryz.prog [(r2.1,some 88),((.af (-1)),none),((.af 3),none)] bV.2) (ah (bA 5 r1.1 cm.2) λcj=>ah (call (cO 37) [cj.1] cj.2) λcd=>ah (aY Tryz.prog 88 cd.2) λbO=>ah (bP 204 bO.1 cd.1 bO.2) λbW=>ah (cW (mq call) (bi (dp 0 [x0] ak.blank) [(1,r1.1),(2,r2.1),(3,(.af 0)),(4,(.af 0)),(12,r3.1),(13,r4.1),(14,r5.1),(11,r5.1),(15,r6.1),(16,r7.1),(5,r6.1),(6,r7.1),(17,r7.1),(18,r8.1),(21,bB.1),(22,bQ.1),(23,bS.1),(24,cm.1),(26,cj.1),(27,cd.1),(7,bO.1),(8,(.af 0))]) bW.2) λez=>di 0 ez.1 (ah (bA 204 (ez.2.1 7) ez.2.2) λfU=>ah (bP 204 (ez.2.1 2) fU.1 fU.2) λfB=>aF Tryz.prog [((ez.2.1 2),some 88),((.af 0),none),((.af 0),none)] fB.2) (iq ez.1 (aF Tryz.prog [((ez.2.1 2),some 88),((ez.2.1 3),none),((ez.2.1 4),none)] ez.2.2))))
def E0{x0:ae}{W:AW}{r:ae×AW}(h:wy bm x0 W=some r):bm (.func (.func 25) #[] #[]) [x0] W=some (gc W r):=bH (nt:=48) (n:=1) (by kernel_rfl) (by kernel_rfl) rfl (aJ (by kernel_rfl) h)
def mW(call:Eng.Callee)(R:Nat->ae)(W:AW):Option LT:=ah (aw Tryz.prog .lss 3 false false (R 11) (R 10) W) λbB=>bg bB.1 (ah (aO 3 (R 1) bB.2) λbQ=>ah (aK bQ.1 bQ.2) λbS=>ah (aO 3 (R 1) bS.2) λcm=>ah (aK cm.1 cm.2) λbN=>ah (gn 3 bN.1 (R 11) bN.2) λbV=>ah (aO 1 bV.1 bV.2) λcj=>ah (aK cj.1 cj.2) λcd=>ah (call (cO 40) [cd.1] cd.2) λbO=>aQ (rE true (aK bQ.1 bO.2) bS.1&&true) (ah (gn 3 bS.1 (R 11) bO.2) λbW=>ah (aO 1 bW.1 bW.2) λcz=>ah (bP 1 cz.1 bO.1 cz.2) λcn=>ah (aw Tryz.prog .add 3 false true (R 11) (.af 1) cn.2) λcx=>some (X.normal,(bi R [(12,bB.1),(13,(R 11)),(3,(R 11)),(14,bQ.1),(15,bS.1),(16,(R 11)),(17,cm.1),(18,bN.1),(19,(R 11)),(20,bV.1),(21,cj.1),(22,cd.1),(23,bO.1),(24,bW.1),(25,cz.1),(26,cx.1),(11,cx.1)]),cx.2)) none) (some (X.exit 0,(eP R (some 12) bB.1),bB.2))
def yd(call:Eng.Callee)(x0:ae)(W:AW):Option (ae×AW):=ah (cD x0 W) λr1=>ah (aY Tryz.prog 24 r1.2) λr2=>ah (aO 3 r1.1 r2.2) λr3=>ah (aK r3.1 r3.2) λr4=>ah (call (cO 39) [r4.1] r4.2) λr5=>ah (aO 3 r1.1 r5.2) λr6=>ah (bP 1 r6.1 r5.1 r6.2) λr7=>ah (aO 3 r1.1 r7.2) λr8=>ah (aK r8.1 r8.2) λr9=>ah (aB Tryz.prog .len #[22] 3 #[false] [r9.1] r9.2) λbw=>ah (cW (mW call) (bi (dp 0 [x0] ak.blank) [(1,r1.1),(2,r2.1),(4,r3.1),(5,r4.1),(6,r5.1),(7,r6.1),(8,r8.1),(9,r9.1),(10,bw.1),(11,(.af 0))]) bw.2) λcE=>di 0 cE.1 (ah (bA 4 (cE.2.1 1) cE.2.2) λcH=>ah (bP 4 (cE.2.1 2) cH.1 cH.2) λcZ=>aF Tryz.prog [((cE.2.1 2),some 24)] cZ.2) (none)
def BA{x0:ae}{W:AW}{r:ae×AW}(h:yd bm x0 W=some r):bm (.func (.func 26) #[] #[]) [x0] W=some (gc W r):=bH (nt:=28) (n:=1) (by kernel_rfl) (by kernel_rfl) rfl (aJ (by kernel_rfl) h)
def fI(call:Eng.Callee)(x0:ae)(W:AW):Option (ae×AW):=ah (aw Tryz.prog .eql 25 false true x0 (.slice none 0 0) W) λr1=>bg r1.1 (aF Tryz.prog [((.slice none 0 0),none)] r1.2) (ah (aD Tryz.prog 25 0 [] r1.2) λr2=>ah (aN Tryz.prog r2.2 #[25,25] r2.1 x0) λr3=>aF Tryz.prog [(r3.1,none)] r3.2)
def i8{x0:ae}{W:AW}{r:ae×AW}(h:fI bm x0 W=some r):bm (.func (.func 27) #[] #[]) [x0] W=some (gc W r):=bH (nt:=8) (n:=1) (by kernel_rfl) (by kernel_rfl) rfl (aJ (by kernel_rfl) h)
def oQ(call:Eng.Callee)(R:Nat->ae)(W:AW):Option LT:=ah (aB Tryz.prog .len #[22] 3 #[false] [(R 3)] W) λr7=>ah (aw Tryz.prog .lss 3 false false (R 4) r7.1 r7.2) λr8=>bg r8.1 (ah (gn 3 (R 3) (R 4) r8.2) λr9=>ah (bA 3 r9.1 r9.2) λbw=>ah (aY Tryz.prog 66 bw.2) λbB=>ah (bP 3 bB.1 bw.1 bB.2) λbQ=>ah (aD Tryz.prog 64 0 [] bQ.2) λbS=>ah (aO 1 bB.1 bS.2) λcm=>ah (aK cm.1 cm.2) λbN=>ah (aN Tryz.prog bN.2 #[64,64] bS.1 bN.1) λbV=>ah (aO 1 bB.1 bV.2) λcj=>ah (bP 1 cj.1 bV.1 cj.2) λcd=>ah (aO 3 (R 1) cd.2) λbO=>ah (aK bO.1 bO.2) λbW=>ah (bA 3 bB.1 bW.2) λcz=>ah (aD Tryz.prog 22 1 [(0,cz.1)] cz.2) λcn=>ah (aN Tryz.prog cn.2 #[22,22] bW.1 cn.1) λcx=>ah (aO 3 (R 1) cx.2) λcE=>ah (bP 1 cE.1 cx.1 cE.2) λcH=>ah (aw Tryz.prog .add 3 false true (R 4) (.af 1) cH.2) λcZ=>some (X.normal,(bi R [(9,(R 4)),(10,(R 3)),(11,r7.1),(12,r8.1),(15,(R 3)),(16,(R 4)),(17,r9.1),(18,bw.1),(5,bB.1),(19,bS.1),(20,cm.1),(21,bN.1),(22,bV.1),(23,cj.1),(24,bO.1),(25,bW.1),(26,cz.1),(27,cn.1),(28,cx.1),(29,cE.1),(13,(R 4)),(14,cZ.1),(4,cZ.1)]),cZ.2)) (some (X.exit 0,(bi R [(9,(R 4)),(10,(R 3)),(11,r7.1),(12,r8.1)]),r8.2))
def AG(call:Eng.Callee)(x0:ae)(W:AW):Option (ae×AW):=ah (cD x0 W) λr1=>ah (aY Tryz.prog 24 r1.2) λr2=>ah (aO 3 r1.1 r2.2) λr3=>ah (aK r3.1 r3.2) λr4=>ah (aO 3 r1.1 r4.2) λr5=>ah (bP 1 r5.1 (.slice none 0 0) r5.2) λr6=>ah (cW (oQ call) (bi (dp 0 [x0] ak.blank) [(1,r1.1),(2,r2.1),(6,r3.1),(7,r4.1),(3,r4.1),(8,r5.1),(4,(.af 0))]) r6.2) λcX=>di 0 cX.1 (ah (bA 4 (cX.2.1 1) cX.2.2) λdm=>ah (bP 4 (cX.2.1 2) dm.1 dm.2) λcU=>aF Tryz.prog [((cX.2.1 2),some 24)] cU.2) (none)
def Cj{x0:ae}{W:AW}{r:ae×AW}(h:AG bm x0 W=some r):bm (.func (.func 28) #[] #[]) [x0] W=some (gc W r):=bH (nt:=31) (n:=1) (by kernel_rfl) (by kernel_rfl) rfl (aJ (by kernel_rfl) h)
def qk(call:Eng.Callee)(R:Nat->ae)(W:AW):Option LT:=ah (aO 3 (R 2) W) λdm=>ah (aK dm.1 dm.2) λcU=>ah (aB Tryz.prog .len #[22] 3 #[false] [cU.1] cU.2) λdN=>ah (aw Tryz.prog .lss 3 false false (R 5) dN.1 dN.2) λdK=>bg dK.1 (ah (aO 3 (R 2) dK.2) λdY=>ah (aK dY.1 dY.2) λdC=>ah (gn 3 dC.1 (R 5) dC.2) λdv=>ah (bA 3 dv.1 dv.2) λdT=>ah (aO 3 (R 3) dT.2) λdU=>ah (aK dU.1 dU.2) λez=>ah (gn 3 ez.1 (R 5) ez.2) λfU=>ah (bA 3 fU.1 fU.2) λfB=>ah (aY Tryz.prog 66 fB.2) λfA=>ah (aY Tryz.prog 66 fA.2) λgd=>ah (bP 3 fA.1 dT.1 gd.2) λfS=>aQ (rE true (bA 3 fU.1 fS.2) fB.1&&(rE true (aK dU.1 fS.2) ez.1&&true)) (ah (bP 3 gd.1 fB.1 fS.2) λgX=>ah (aO 0 fA.1 gX.2) λgG=>ah (aK gG.1 gG.2) λfH=>ah (aO 0 gd.1 fH.2) λiH=>ah (aK iH.1 iH.2) λjB=>ah (aw Tryz.prog .neq 9 false false fH.1 jB.1 jB.2) λi9=>ah (aQ (aU i9.1 false) (aO 2 fA.1 i9.2) (some (ag,i9.2))) λkW=>ah (aQ (aU i9.1 false) (aK kW.1 kW.2) (some (ag,kW.2))) λj0=>ah (aQ (aU i9.1 false) (aO 2 gd.1 j0.2) (some (ag,j0.2))) λlq=>ah (aQ (aU i9.1 false) (aK lq.1 lq.2) (some (ag,lq.2))) λlT=>ah (aQ (aU i9.1 false) (aw Tryz.prog .neq 3 false false j0.1 lT.1 lT.2) (some (ag,lT.2))) λkY=>ah (bu i9.1 (.bool true) kY.1 kY.2) λj6=>ah (aQ (aU j6.1 false) (aO 1 fA.1 j6.2) (some (ag,j6.2))) λpi=>ah (aQ (aU j6.1 false) (aK pi.1 pi.2) (some (ag,pi.2))) λlz=>ah (aQ (aU j6.1 false) (aO 1 gd.1 lz.2) (some (ag,lz.2))) λoh=>ah (aQ (aU j6.1 false) (aK oh.1 oh.2) (some (ag,oh.2))) λo6=>ah (aQ (aU j6.1 false) (call (cO 41) [lz.1,o6.1] o6.2) (some (ag,o6.2))) λmR=>ah (aQ (aU j6.1 false) (BS Tryz.prog .not mR.1 mR.2) (some (ag,mR.2))) λph=>ah (bu j6.1 (.bool true) ph.1 ph.2) λpe=>bg pe.1 (some (X.ret,(bi R [(36,(R 5)),(37,dm.1),(38,cU.1),(39,dN.1),(40,dK.1),(43,dY.1),(44,dC.1),(45,(R 5)),(46,dv.1),(47,dT.1),(48,dU.1),(49,ez.1),(50,(R 5)),(51,fU.1),(52,fB.1),(6,fA.1),(7,gd.1),(53,gG.1),(54,fH.1),(55,iH.1),(56,jB.1),(57,i9.1),(58,i9.1),(59,kW.1),(60,j0.1),(61,lq.1),(62,lT.1),(63,kY.1),(64,j6.1),(65,j6.1),(66,pi.1),(67,lz.1),(68,oh.1),(69,o6.1),(70,mR.1),(71,ph.1),(72,pe.1),(4,(.bool false))]),pe.2)) (ah (aw Tryz.prog .add 3 false true (R 5) (.af 1) pe.2) λuu=>some (X.normal,(bi R [(36,(R 5)),(37,dm.1),(38,cU.1),(39,dN.1),(40,dK.1),(43,dY.1),(44,dC.1),(45,(R 5)),(46,dv.1),(47,dT.1),(48,dU.1),(49,ez.1),(50,(R 5)),(51,fU.1),(52,fB.1),(6,fA.1),(7,gd.1),(53,gG.1),(54,fH.1),(55,iH.1),(56,jB.1),(57,i9.1),(58,i9.1),(59,kW.1),(60,j0.1),(61,lq.1),(62,lT.1),(63,kY.1),(64,j6.1),(65,j6.1),(66,pi.1),(67,lz.1),(68,oh.1),(69,o6.1),(70,mR.1),(71,ph.1),(72,pe.1),(41,(R 5)),(42,uu.1),(5,uu.1)]),uu.2))) none) (some (X.exit 0,(bi R [(36,(R 5)),(37,dm.1),(38,cU.1),(39,dN.1),(40,dK.1)]),dK.2))
def Dd(call:Eng.Callee)(x0 x1:ae)(W:AW):Option (ae×AW):=ah (cD x0 W) λr1=>ah (cD x1 r1.2) λr2=>ah (aO 0 r1.1 r2.2) λr3=>ah (aK r3.1 r3.2) λr4=>ah (aO 0 r2.1 r4.2) λr5=>ah (aK r5.1 r5.2) λr6=>ah (aw Tryz.prog .neq 3 false false r4.1 r6.1 r6.2) λr7=>ah (aQ (aU r7.1 false) (aO 1 r1.1 r7.2) (some (ag,r7.2))) λr8=>ah (aQ (aU r7.1 false) (aK r8.1 r8.2) (some (ag,r8.2))) λr9=>ah (aQ (aU r7.1 false) (aO 1 r2.1 r9.2) (some (ag,r9.2))) λbw=>ah (aQ (aU r7.1 false) (aK bw.1 bw.2) (some (ag,bw.2))) λbB=>ah (aQ (aU r7.1 false) (aw Tryz.prog .neq 2 false false r9.1 bB.1 bB.2) (some (ag,bB.2))) λbQ=>ah (bu r7.1 (.bool true) bQ.1 bQ.2) λbS=>ah (aQ (aU bS.1 false) (aO 2 r1.1 bS.2) (some (ag,bS.2))) λcm=>ah (aQ (aU bS.1 false) (aK cm.1 cm.2) (some (ag,cm.2))) λbN=>ah (aQ (aU bS.1 false) (aO 2 r2.1 bN.2) (some (ag,bN.2))) λbV=>ah (aQ (aU bS.1 false) (aK bV.1 bV.2) (some (ag,bV.2))) λcj=>ah (aQ (aU bS.1 false) (aw Tryz.prog .neq 2 false false bN.1 cj.1 cj.2) (some (ag,cj.2))) λcd=>ah (bu bS.1 (.bool true) cd.1 cd.2) λbO=>ah (aQ (aU bO.1 false) (aO 3 r1.1 bO.2) (some (ag,bO.2))) λbW=>ah (aQ (aU bO.1 false) (aK bW.1 bW.2) (some (ag,bW.2))) λcz=>ah (aQ (aU bO.1 false) (aB Tryz.prog .len #[22] 3 #[false] [cz.1] cz.2) (some (ag,cz.2))) λcn=>ah (aQ (aU bO.1 false) (aO 3 r2.1 cn.2) (some (ag,cn.2))) λcx=>ah (aQ (aU bO.1 false) (aK cx.1 cx.2) (some (ag,cx.2))) λcE=>ah (aQ (aU bO.1 false) (aB Tryz.prog .len #[22] 3 #[false] [cE.1] cE.2) (some (ag,cE.2))) λcH=>ah (aQ (aU bO.1 false) (aw Tryz.prog .neq 3 false false cn.1 cH.1 cH.2) (some (ag,cH.2))) λcZ=>ah (bu bO.1 (.bool true) cZ.1 cZ.2) λcX=>bg cX.1 (aF Tryz.prog [((.bool false),none)] cX.2) (ah (cW (qk call) (bi (dp 0 [x0,x1] ak.blank) [(2,r1.1),(3,r2.1),(4,(.bool false)),(8,r3.1),(9,r4.1),(10,r5.1),(11,r6.1),(12,r7.1),(13,r7.1),(14,r8.1),(15,r9.1),(16,bw.1),(17,bB.1),(18,bQ.1),(19,bS.1),(20,bS.1),(21,cm.1),(22,bN.1),(23,bV.1),(24,cj.1),(25,cd.1),(26,bO.1),(27,bO.1),(28,bW.1),(29,cz.1),(30,cn.1),(31,cx.1),(32,cE.1),(33,cH.1),(34,cZ.1),(35,cX.1),(5,(.af 0))]) cX.2) λrF=>di 0 rF.1 (aF Tryz.prog [((.bool true),none)] rF.2.2) (iq rF.1 (aF Tryz.prog [((rF.2.1 4),none)] rF.2.2)))
def EN{x0 x1:ae}{W:AW}{r:ae×AW}(h:Dd bm x0 x1 W=some r):bm (.func (.func 29) #[] #[]) [x0,x1] W=some (gc W r):=bH (nt:=73) (n:=2) (by kernel_rfl) (by kernel_rfl) rfl (aJ (by kernel_rfl) h)
def rW(call:Eng.Callee)(W:AW):Option (ae×AW):=ah (aY Tryz.prog 110 W) λr1=>ah (bD Tryz.prog 110 [(0,.nilFunc),(1,(cO 48)),(2,(cO 49)),(3,(cO 50)),(4,(cO 51)),(5,(cO 52)),(6,(cO 53))] r1.2) λr2=>ah (bP 7 r1.1 r2.1 r2.2) λr3=>aF Tryz.prog [(r1.1,some 110)] r3.2
def Bf{W:AW}{r:ae×AW}(h:rW bm W=some r):bm (.func (.func 34) #[] #[]) [] W=some (gc W r):=bH (nt:=2) (n:=0) (by kernel_rfl) (by kernel_rfl) rfl (aJ (by kernel_rfl) h)
def fY(call:Eng.Callee)(J0 J3:ae)(W:AW):Option (ae×AW):=ah (be J0 W) λph=>ah (aO 6 ph.1 ph.2) λpe=>ah (aK pe.1 pe.2) λuu=>ah (aO 2 J3 uu.2) λrF=>ah (aK rF.1 rF.2) λwI=>ah (iG Tryz.prog 91 uu.1 wI.1 false wI.2) λBr=>ah (aO 0 J3 Br.2) λwP=>ah (aK wP.1 wP.2) λDe=>ah (aw Tryz.prog .neq 3 false true De.1 (.af 1) De.2) λwt=>ah (aQ (aU wt.1 true) (iT Br.1 wt.2) (some (ag,wt.2))) λAx=>ah (aQ (aU wt.1 true) (aw Tryz.prog .eql 123 false true Ax.1 (.pointer none) Ax.2) (some (ag,Ax.2))) λzM=>ah (aQ (aU wt.1 true) (iT zM.1 zM.2) (some (ag,zM.2))) λqo=>ah (aQ (aU qo.1 false) (iT J0 qo.2) (some (ag,qo.2))) λwN=>ah (aQ (aU qo.1 false) (be wN.1 wN.2) (some (ag,wN.2))) λDf=>ah (aQ (aU qo.1 false) (aO 5 Df.1 Df.2) (some (ag,Df.2))) λyG=>ah (aQ (aU qo.1 false) (aK yG.1 yG.2) (some (ag,yG.2))) λEw=>ah (aQ (aU qo.1 false) (iT Br.1 Ew.2) (some (ag,Ew.2))) λxZ=>ah (aQ (aU qo.1 false) (be xZ.1 xZ.2) (some (ag,xZ.2))) λEp=>ah (aQ (aU qo.1 false) (aO 0 Ep.1 Ep.2) (some (ag,Ep.2))) λEl=>ah (aQ (aU qo.1 false) (aK El.1 El.2) (some (ag,El.2))) λE1=>ah (aQ (aU qo.1 false) (gn 26 Ew.1 E1.1 E1.2) (some (ag,E1.2))) λIf=>ah (aQ (aU qo.1 false) (aO 0 If.1 If.2) (some (ag,If.2))) λHk=>ah (aQ (aU qo.1 false) (aK Hk.1 Hk.2) (some (ag,Hk.2))) λFl=>ah (aQ (aU qo.1 false) (aO 3 J3 Fl.2) (some (ag,Fl.2))) λIa=>ah (aQ (aU qo.1 false) (aK Ia.1 Ia.2) (some (ag,Ia.2))) λID=>ah (aQ (aU qo.1 false) (aw Tryz.prog .neq 3 false false Fl.1 ID.1 ID.2) (some (ag,ID.2))) λE2=>ah (aQ (aU wt.1 true) (bu qo.1 (.bool true) E2.1 E2.2) (some (ag,E2.2))) λH6=>ah (bu wt.1 H6.1 (.bool false) H6.2) λM8=>bg M8.1 (aF Tryz.prog [((.af 4),none)] M8.2) (aF Tryz.prog [((.af 0),none)] M8.2)
def cV(call:Eng.Callee)(J0 J3 J5 J6:ae)(W:AW):Option (ae×AW):=ah (bA 31 J3 W) λbW=>ah (bA 31 J5 bW.2) λcz=>ah (aw Tryz.prog .neq 98 false false bW.1 cz.1 cz.2) λcn=>bg cn.1 (aF Tryz.prog [((.af 2),none)] cn.2) (ah (aO 1 J3 cn.2) λcx=>ah (aK cx.1 cx.2) λcE=>ah (aw Tryz.prog .lss 3 false true cE.1 (.af 0) cE.2) λcH=>ah (aQ (aU cH.1 false) (aO 1 J3 cH.2) (some (ag,cH.2))) λcZ=>ah (aQ (aU cH.1 false) (aK cZ.1 cZ.2) (some (ag,cZ.2))) λcX=>ah (aQ (aU cH.1 false) (aw Tryz.prog .gtr 3 false true cX.1 (.af 1000000000) cX.2) (some (ag,cX.2))) λdm=>ah (bu cH.1 (.bool true) dm.1 dm.2) λcU=>ah (aQ (aU cU.1 false) (aO 2 J3 cU.2) (some (ag,cU.2))) λdN=>ah (aQ (aU cU.1 false) (aK dN.1 dN.2) (some (ag,dN.2))) λdK=>ah (aQ (aU cU.1 false) (aw Tryz.prog .lss 3 false true dK.1 (.af 1) dK.2) (some (ag,dK.2))) λdY=>ah (bu cU.1 (.bool true) dY.1 dY.2) λdC=>ah (aQ (aU dC.1 false) (aO 2 J3 dC.2) (some (ag,dC.2))) λdv=>ah (aQ (aU dC.1 false) (aK dv.1 dv.2) (some (ag,dv.2))) λdT=>ah (aQ (aU dC.1 false) (aw Tryz.prog .gtr 3 false true dT.1 (.af 64) dT.2) (some (ag,dT.2))) λdU=>ah (bu dC.1 (.bool true) dU.1 dU.2) λez=>bg ez.1 (aF Tryz.prog [((.af 7),none)] ez.2) (ah (aO 1 J3 ez.2) λfU=>ah (aK fU.1 fU.2) λfB=>ah (be J0 fB.2) λfA=>ah (aO 8 fA.1 fA.2) λgd=>ah (aK gd.1 gd.2) λfS=>ah (aw Tryz.prog .lss 3 false false fB.1 fS.1 fS.2) λgX=>ah (aQ (aU gX.1 false) (iT J6 gX.2) (some (ag,gX.2))) λgG=>ah (aQ (aU gX.1 false) (iT gG.1 gG.2) (some (ag,gG.2))) λfH=>ah (aQ (aU fH.1 true) (aO 1 J3 fH.2) (some (ag,fH.2))) λiH=>ah (aQ (aU fH.1 true) (aK iH.1 iH.2) (some (ag,iH.2))) λjB=>ah (aQ (aU fH.1 true) (iT J0 jB.2) (some (ag,jB.2))) λi9=>ah (aQ (aU fH.1 true) (be i9.1 i9.2) (some (ag,i9.2))) λkW=>ah (aQ (aU fH.1 true) (aO 9 kW.1 kW.2) (some (ag,kW.2))) λj0=>ah (aQ (aU fH.1 true) (aK j0.1 j0.2) (some (ag,j0.2))) λlq=>ah (aQ (aU fH.1 true) (aw Tryz.prog .leq 3 false false jB.1 lq.1 lq.2) (some (ag,lq.2))) λlT=>ah (aQ (aU gX.1 false) (bu fH.1 lT.1 (.bool false) lT.2) (some (ag,lT.2))) λkY=>ah (bu gX.1 (.bool true) kY.1 kY.2) λj6=>bg j6.1 (aF Tryz.prog [((.af 18),none)] j6.2) (ah (aO 1 J3 j6.2) λpi=>ah (aK pi.1 pi.2) λlz=>ah (be J0 lz.2) λoh=>ah (aO 8 oh.1 oh.2) λo6=>ah (bP 1 o6.1 lz.1 o6.2) λmR=>bg J6 (ah (aO 1 J3 mR.2) λIj=>ah (aK Ij.1 Ij.2) λPT=>ah (be J0 PT.2) λOA=>ah (aO 9 OA.1 OA.2) λRL=>ah (bP 1 RL.1 PT.1 RL.2) λr92=>fY call J0 J3 r92.2) (fY call J0 J3 mR.2))))
def eR(call:Eng.Callee)(J0 J3 J5 J6 J26 J37:ae)(W:AW):Option (ae×AW):=bg J37 (ah (aO 4 J3 W) λJP=>ah (aK JP.1 JP.2) λrD=>ah (aO 4 J5 rD.2) λHM=>ah (bP 1 HM.1 rD.1 HM.2) λIL=>cV call J0 J3 J5 (.bool true) IL.2) (ah (aw Tryz.prog .eql 3 false true J26 (.af 6) W) λEm=>bg Em.1 (ah (aO 26 J3 Em.2) λHD=>ah (bA 5 HD.1 HD.2) λG3=>ah (aO 26 J5 G3.2) λA8=>ah (bP 5 A8.1 G3.1 A8.2) λKZ=>cV call J0 J3 J5 J6 KZ.2) (cV call J0 J3 J5 J6 Em.2))
def kz(call:Eng.Callee)(x0 x1:ae)(W:AW):Option (ae×AW):=ah (cD x1 W) λr1=>ah (aO 0 r1.1 r1.2) λr2=>ah (aK r2.1 r2.2) λr3=>ah (aw Tryz.prog .lss 3 false true r3.1 (.af 1) r3.2) λr4=>ah (aQ (aU r4.1 false) (aO 0 r1.1 r4.2) (some (ag,r4.2))) λr5=>ah (aQ (aU r4.1 false) (aK r5.1 r5.2) (some (ag,r5.2))) λr6=>ah (aQ (aU r4.1 false) (aw Tryz.prog .gtr 3 false true r6.1 (.af 6) r6.2) (some (ag,r6.2))) λr7=>ah (bu r4.1 (.bool true) r7.1 r7.2) λr8=>bg r8.1 (aF Tryz.prog [((.af 2),none)] r8.2) (ah (aO 0 r1.1 r8.2) λr9=>ah (aK r9.1 r9.2) λbw=>ah (aO 1 r1.1 bw.2) λbB=>ah (aK bB.1 bB.2) λbQ=>ah (aO 2 r1.1 bQ.2) λbS=>ah (aK bS.1 bS.2) λcm=>ah (aO 3 r1.1 cm.2) λbN=>ah (aK bN.1 bN.2) λbV=>ah (bD Tryz.prog 98 [(0,bw.1),(1,bQ.1),(2,cm.1),(3,bV.1)] bV.2) λcj=>ah (aY Tryz.prog 98 cj.2) λcd=>ah (bP 31 cd.1 cj.1 cd.2) λbO=>ah (aO 0 r1.1 bO.2) λNJ=>ah (aK NJ.1 NJ.2) λK9=>ah (aw Tryz.prog .eql 3 false true K9.1 (.af 1) K9.2) λRm=>bg Rm.1 (ah (aO 5 r1.1 Rm.2) λON=>ah (bA 12 ON.1 ON.2) λWV=>ah (aO 5 cd.1 WV.2) λR6=>ah (bP 12 R6.1 WV.1 R6.2) λXf=>cV call x0 r1.1 cd.1 (.bool false) Xf.2) (ah (aw Tryz.prog .eql 3 false true K9.1 (.af 3) Rm.2) λxr=>bg xr.1 (ah (aO 17 r1.1 xr.2) λyp=>ah (bA 9 yp.1 yp.2) λzT=>ah (aO 17 cd.1 zT.2) λCP=>ah (bP 9 CP.1 zT.1 CP.2) λIF=>cV call x0 r1.1 cd.1 (.bool true) IF.2) (ah (aw Tryz.prog .eql 3 false true K9.1 (.af 2) xr.2) λBj=>bg Bj.1 (eR call x0 r1.1 cd.1 (.bool false) K9.1 Bj.1 Bj.2) (ah (aw Tryz.prog .eql 3 false true K9.1 (.af 4) Bj.2) λGV=>eR call x0 r1.1 cd.1 (.bool false) K9.1 GV.1 GV.2))))
def uB{x0 x1:ae}{W:AW}{r:ae×AW}(h:kz bm x0 x1 W=some r):bm (.func (.func 35) #[] #[]) [x0,x1] W=some (gc W r):=bH (nt:=132) (n:=2) (by kernel_rfl) (by kernel_rfl) rfl (aJ (by kernel_rfl) h)
def oM(call:Eng.Callee)(R:Nat->ae)(W:AW):Option LT:=ah (aw Tryz.prog .lss 3 false true (R 4) (.af 65) W) λr7=>bg r7.1 (ah (aO 6 (R 3) r7.2) λr8=>ah (Gt 65 3 r8.1 (R 4) r8.2) λr9=>ah (aO 0 r9.1 r9.2) λbw=>ah (bP 1 bw.1 (.af (-1)) bw.2) λbB=>ah (aw Tryz.prog .add 3 false true (R 4) (.af 1) bB.2) λbQ=>some (X.normal,(bi R [(7,(R 4)),(8,r7.1),(11,(R 4)),(12,r8.1),(13,r9.1),(14,bw.1),(9,(R 4)),(10,bQ.1),(4,bQ.1)]),bQ.2)) (some (X.exit 0,(bi R [(7,(R 4)),(8,r7.1)]),r7.2))
def ub(call:Eng.Callee)(x0:ae)(W:AW):Option (ae×AW):=ah (cD x0 W) λr1=>ah (aY Tryz.prog 88 r1.2) λr2=>ah (bA 5 r1.1 r2.2) λr3=>ah (bD Tryz.prog 88 [(0,r3.1),(5,(.af (-1)))] r3.2) λr4=>ah (aY Tryz.prog 88 r4.2) λr5=>ah (bP 204 r5.1 r4.1 r5.2) λr6=>ah (cW (oM call) (bi (dp 0 [x0] ak.blank) [(1,r1.1),(2,r2.1),(5,r3.1),(6,r4.1),(3,r5.1),(4,(.af 0))]) r6.2) λbS=>di 0 bS.1 (ah (aO 0 (bS.2.1 1) bS.2.2) λcm=>ah (aO 0 cm.1 cm.2) λbN=>ah (aK bN.1 bN.2) λbV=>ah (aO 0 (bS.2.1 1) bV.2) λcj=>ah (aO 3 cj.1 cj.2) λcd=>ah (aK cd.1 cd.2) λbO=>ah (aB Tryz.prog .len #[22] 3 #[false] [bO.1] bO.2) λbW=>ah (aw Tryz.prog .add 3 false false bV.1 bW.1 bW.2) λcz=>ah (oR Tryz.prog 64 cz.1 cz.1 cz.2) λcn=>ah (aO 201 (bS.2.1 3) cn.2) λcx=>ah (bP 1 cx.1 cn.1 cx.2) λcE=>ah (bA 204 (bS.2.1 3) cE.2) λcH=>ah (bP 204 (bS.2.1 2) cH.1 cH.2) λcZ=>aF Tryz.prog [((bS.2.1 2),some 88)] cZ.2) (none)
def C6{x0:ae}{W:AW}{r:ae×AW}(h:ub bm x0 W=some r):bm (.func (.func 37) #[] #[]) [x0] W=some (gc W r):=bH (nt:=26) (n:=1) (by kernel_rfl) (by kernel_rfl) rfl (aJ (by kernel_rfl) h)
def ir(call:Eng.Callee)(J2 J4 J6:ae)(W:AW):Option (ae×AW):=ah (aO 2 J6 W) λTW=>ah (aK TW.1 TW.2) λRO=>ah (aO 6 J2 RO.2) λRG=>ah (Gt 65 3 RG.1 RO.1 RG.2) λUS=>ah (aO 1 US.1 US.2) λQh=>ah (aK Qh.1 Qh.2) λWg=>ah (aw Tryz.prog .add 3 false true Wg.1 (.af 1) Wg.2) λSQ=>ah (aO 6 J2 SQ.2) λPY=>ah (Gt 65 3 PY.1 RO.1 PY.2) λWe=>ah (aO 1 We.1 We.2) λVs=>ah (bP 1 Vs.1 SQ.1 Vs.2) λVr=>ah (bA 204 J2 Vr.2) λUV=>ah (bP 204 J4 UV.1 UV.2) λUY=>aF Tryz.prog [(J4,some 88),((.af 0),none)] UY.2
def gf(call:Eng.Callee)(J1 J2 J4 J6:ae)(W:AW):Option (ae×AW):=ah (aO 0 J6 W) λbO=>ah (aK bO.1 bO.2) λbW=>ah (aw Tryz.prog .eql 3 false true bW.1 (.af 1) bW.2) λcz=>bg cz.1 (ah (bA 204 J2 cz.2) λcn=>ah (call (cO 59) [cn.1,J1] cn.2) λcx=>ah (ap cx.1 0 cx.2) λcE=>ah (ap cx.1 1 cE.2) λcH=>ah (bP 204 J4 cE.1 cH.2) λcZ=>aF Tryz.prog [(J4,some 88),(cH.1,none)] cZ.2) (ah (aO 2 J6 cz.2) λcX=>ah (aK cX.1 cX.2) λdm=>ah (aO 6 J2 dm.2) λcU=>ah (Gt 65 3 cU.1 dm.1 cU.2) λdN=>ah (bA 3 dN.1 dN.2) λdK=>ah (aY Tryz.prog 85 dK.2) λdY=>ah (bP 3 dY.1 dK.1 dY.2) λdC=>ah (aO 0 dY.1 dC.2) λdv=>ah (aK dv.1 dv.2) λdT=>ah (aw Tryz.prog .lss 3 false true dT.1 (.af 0) dT.2) λdU=>ah (aQ (aU dU.1 false) (aO 5 J2 dU.2) (some (ag,dU.2))) λez=>ah (aQ (aU dU.1 false) (aK ez.1 ez.2) (some (ag,ez.2))) λfU=>ah (aQ (aU dU.1 false) (aO 0 dY.1 fU.2) (some (ag,fU.2))) λfB=>ah (aQ (aU dU.1 false) (aK fB.1 fB.2) (some (ag,fB.2))) λfA=>ah (aQ (aU dU.1 false) (gn 26 fU.1 fA.1 fA.2) (some (ag,fA.2))) λgd=>ah (aQ (aU dU.1 false) (aO 0 gd.1 gd.2) (some (ag,gd.2))) λfS=>ah (aQ (aU dU.1 false) (aK fS.1 fS.2) (some (ag,fS.2))) λgX=>ah (aQ (aU dU.1 false) (aO 3 J6 gX.2) (some (ag,gX.2))) λgG=>ah (aQ (aU dU.1 false) (aK gG.1 gG.2) (some (ag,gG.2))) λfH=>ah (aQ (aU dU.1 false) (aw Tryz.prog .neq 3 false false gX.1 fH.1 fH.2) (some (ag,fH.2))) λiH=>ah (bu dU.1 (.bool true) iH.1 iH.2) λjB=>bg jB.1 (ah (bA 204 J2 jB.2) λi9=>ah (bP 204 J4 i9.1 i9.2) λkW=>aF Tryz.prog [(J4,some 88),((.af 4),none)] kW.2) (ah (aD Tryz.prog 33 0 [] jB.2) λj0=>ah (aO 5 J2 j0.2) λlq=>ah (aK lq.1 lq.2) λlT=>ah (aN Tryz.prog lT.2 #[33,33] j0.1 lT.1) λkY=>ah (aO 5 J2 kY.2) λj6=>ah (bP 1 j6.1 kY.1 j6.2) λpi=>ah (aO 0 J2 pi.2) λlz=>ah (aO 0 lz.1 lz.2) λoh=>ah (bA 4 oh.1 oh.2) λo6=>ah (aO 5 J2 o6.2) λmR=>ah (aK mR.1 mR.2) λph=>ah (aO 0 dY.1 ph.2) λpe=>ah (aK pe.1 pe.2) λuu=>ah (gn 26 ph.1 uu.1 uu.2) λrF=>ah (aO 2 rF.1 rF.2) λwI=>ah (bA 12 wI.1 wI.2) λBr=>ah (call (cO 60) [o6.1,Br.1] Br.2) λwP=>ah (ap wP.1 0 wP.2) λDe=>ah (ap wP.1 1 De.2) λwt=>ah (aO 0 J6 wt.2) λAx=>ah (aK Ax.1 Ax.2) λzM=>ah (aw Tryz.prog .eql 3 false true zM.1 (.af 5) zM.2) λqo=>bg qo.1 (ah (aO 1 dY.1 qo.2) λwN=>ah (aK wN.1 wN.2) λDf=>ah (aB Tryz.prog .len #[130] 3 #[false] [De.1] Df.2) λyG=>ah (aw Tryz.prog .lss 3 false false Df.1 yG.1 yG.2) λEw=>bg Ew.1 (ah (bA 204 J2 Ew.2) λxZ=>ah (bP 204 J4 xZ.1 xZ.2) λEp=>aF Tryz.prog [(J4,some 88),((.af 6),none)] Ep.2) (ah (aO 5 J2 Ew.2) λEl=>ah (aK El.1 El.2) λE1=>ah (aO 0 dY.1 E1.2) λIf=>ah (aK If.1 If.2) λHk=>ah (gn 26 E1.1 Hk.1 Hk.2) λFl=>ah (aO 25 Fl.1 Fl.2) λIa=>ah (bP 1 Ia.1 J1 Ia.2) λID=>ah (aO 2 J6 ID.2) λE2=>ah (aK E2.1 E2.2) λH6=>ah (bD Tryz.prog 85 [(0,(.af (-1)))] H6.2) λM8=>ah (aO 6 J2 M8.2) λIj=>ah (Gt 65 3 Ij.1 H6.1 Ij.2) λPT=>ah (bP 3 PT.1 M8.1 PT.2) λOA=>ah (bA 204 J2 OA.2) λRL=>ah (bP 204 J4 RL.1 RL.2) λr92=>aF Tryz.prog [(J4,some 88),((.af 0),none)] r92.2)) (ah (aw Tryz.prog .eql 3 false true zM.1 (.af 6) qo.2) λNJ=>bg NJ.1 (ah (bA 204 J2 NJ.2) λK9=>ah (call (cO 61) [K9.1,J1] K9.2) λRm=>ah (ap Rm.1 0 Rm.2) λON=>ah (ap Rm.1 1 ON.2) λWV=>ah (bP 204 J4 ON.1 WV.2) λR6=>aF Tryz.prog [(J4,some 88),(WV.1,none)] R6.2) (ah (bD Tryz.prog 133 [(0,(.af 0)),(1,(.af 0)),(2,(.af 1)),(3,(.af 2)),(4,(.af 3))] NJ.2) λXf=>ah (aO 0 J6 Xf.2) λxr=>ah (aK xr.1 xr.2) λyp=>ah (eH Tryz.prog 133 Xf.1 yp.1 yp.2) λzT=>ah (aO 1 dY.1 zT.2) λCP=>ah (aK CP.1 CP.2) λIF=>ah (aB Tryz.prog .len #[130] 3 #[false] [De.1] IF.2) λJP=>ah (aw Tryz.prog .geq 3 false false IF.1 JP.1 JP.2) λrD=>ah (aQ (aU rD.1 false) (iT De.1 rD.2) (some (ag,rD.2))) λHM=>ah (aQ (aU rD.1 false) (aO 1 dY.1 HM.2) (some (ag,HM.2))) λIL=>ah (aQ (aU rD.1 false) (aK IL.1 IL.2) (some (ag,IL.2))) λEm=>ah (aQ (aU rD.1 false) (gn 2 HM.1 Em.1 Em.2) (some (ag,Em.2))) λHD=>ah (aQ (aU rD.1 false) (bA 2 HD.1 HD.2) (some (ag,HD.2))) λG3=>ah (aQ (aU rD.1 false) (iT zT.1 G3.2) (some (ag,G3.2))) λA8=>ah (aQ (aU rD.1 false) (aO 4 J6 A8.2) (some (ag,A8.2))) λKZ=>ah (aQ (aU rD.1 false) (aK KZ.1 KZ.2) (some (ag,KZ.2))) λBj=>ah (aQ (aU rD.1 false) (bD Tryz.prog 135 [(0,A8.1),(1,Bj.1)] Bj.2) (some (ag,Bj.2))) λGV=>ah (aQ (aU rD.1 false) (aw Tryz.prog .neq 135 false false G3.1 GV.1 GV.2) (some (ag,GV.2))) λUt=>ah (bu rD.1 (.bool true) Ut.1 Ut.2) λMw=>bg Mw.1 (ah (bA 204 J2 Mw.2) λWk=>ah (bP 204 J4 Wk.1 Wk.2) λY1=>aF Tryz.prog [(J4,some 88),((.af 6),none)] Y1.2) (ah (aD Tryz.prog 64 0 [] Mw.2) λJc=>ah (aO 201 J2 Jc.2) λU8=>ah (aK U8.1 U8.2) λRw=>ah (aN Tryz.prog Rw.2 #[64,64] Jc.1 Rw.1) λUZ=>ah (aO 201 J2 UZ.2) λUJ=>ah (bP 1 UJ.1 UZ.1 UJ.2) λWr=>ah (aO 0 J6 Wr.2) λVt=>ah (aK Vt.1 Vt.2) λQo=>ah (aw Tryz.prog .eql 3 false true Qo.1 (.af 2) Qo.2) λLI=>bg LI.1 (ah (aO 201 J2 LI.2) λTL=>ah (aK TL.1 TL.2) λVd=>ah (aO 4 J6 Vd.2) λJx=>ah (aK Jx.1 Jx.2) λVx=>ah (gn 1 Vd.1 Vx.1 Vx.2) λPK=>ah (aK PK.1 PK.2) λSU=>ah (aw Tryz.prog .neq 3 false true SU.1 (.af 0) SU.2) λPO=>bg PO.1 (ah (bA 204 J2 PO.2) λR5=>ah (bP 204 J4 R5.1 R5.2) λXR=>aF Tryz.prog [(J4,some 88),((.af 20),none)] XR.2) (ah (aO 201 J2 PO.2) λUq=>ah (aK Uq.1 Uq.2) λPz=>ah (aO 4 J6 Pz.2) λUC=>ah (aK UC.1 UC.2) λQm=>ah (aO 3 J6 Qm.2) λUN=>ah (aK UN.1 UN.2) λVJ=>ah (gn 1 Pz.1 Qm.1 VJ.2) λRD=>ah (bP 1 RD.1 VJ.1 RD.2) λYr=>ir call J2 J4 J6 Yr.2)) (ah (aw Tryz.prog .eql 3 false true Qo.1 (.af 4) LI.2) λQs=>bg Qs.1 (ah (aO 201 J2 Qs.2) λIZ=>ah (aK IZ.1 IZ.2) λUg=>ah (aO 4 J6 Ug.2) λPW=>ah (aK PW.1 PW.2) λTp=>ah (gn 1 Ug.1 Tp.1 Tp.2) λVT=>ah (bP 1 VT.1 (.af 0) VT.2) λVo=>ir call J2 J4 J6 Vo.2) (ah (aO 5 J2 Qs.2) λXV=>ah (aK XV.1 XV.2) λPI=>ah (aO 0 dY.1 PI.2) λWN=>ah (aK WN.1 WN.2) λVB=>ah (aO 5 J2 VB.2) λQO=>ah (aK QO.1 QO.2) λLw=>ah (aO 0 dY.1 Lw.2) λQQ=>ah (aK QQ.1 QQ.2) λVK=>ah (aO 17 J6 VK.2) λP2=>ah (bA 9 P2.1 P2.2) λLH=>ah (gn 26 PI.1 VB.1 LH.2) λWa=>ah (aO 24 Wa.1 Wa.2) λQB=>ah (bP 1 QB.1 J1 QB.2) λML=>aQ (rE true (bA 9 P2.1 ML.2) LH.1&&(rE true (aK QQ.1 ML.2) VK.1&&(rE true (aK QO.1 ML.2) Lw.1&&true))) (ah (gn 26 Lw.1 VK.1 ML.2) λWH=>ah (aO 14 WH.1 WH.2) λQn=>ah (bP 9 Qn.1 LH.1 Qn.2) λZt=>ir call J2 J4 J6 Zt.2) none)))))))
def mu(call:Eng.Callee)(J1 J2 J4 J6 J7:ae)(W:AW):Option (ae×AW):=ah (aw Tryz.prog .neq 30 false true J7 (.af 0) W) λbQ=>bg bQ.1 (ah (bA 204 J2 bQ.2) λbS=>ah (bP 204 J4 bS.1 bS.2) λcm=>aF Tryz.prog [(J4,some 88),(J7,none)] cm.2) (ah (aO 1 J6 bQ.2) λbN=>ah (aK bN.1 bN.2) λbV=>ah (aO 202 J2 bV.2) λcj=>ah (bP 1 cj.1 bV.1 cj.2) λcd=>ah (bA 31 J6 cd.2) λSZ=>ah (call (cO 58) [SZ.1] SZ.2) λPn=>bg Pn.1 (ah (aO 1 J6 Pn.2) λRT=>ah (aK RT.1 RT.2) λWL=>ah (aO 203 J2 WL.2) λWK=>ah (bP 1 WK.1 WL.1 WK.2) λS9=>gf call J1 J2 J4 J6 S9.2) (gf call J1 J2 J4 J6 Pn.2))
def js(call:Eng.Callee)(J1 J2 J4 J6 J7:ae)(W:AW):Option (ae×AW):=ah (aw Tryz.prog .eql 30 false true J7 (.af 0) W) λyN=>ah (aQ (aU yN.1 true) (aO 1 J6 yN.2) (some (ag,yN.2))) λRc=>ah (aQ (aU yN.1 true) (aK Rc.1 Rc.2) (some (ag,Rc.2))) λG7=>ah (aQ (aU yN.1 true) (aO 202 J2 G7.2) (some (ag,G7.2))) λRN=>ah (aQ (aU yN.1 true) (aK RN.1 RN.2) (some (ag,RN.2))) λMZ=>ah (aQ (aU yN.1 true) (aw Tryz.prog .lss 3 false false G7.1 MZ.1 MZ.2) (some (ag,MZ.2))) λRP=>ah (aQ (aU yN.1 true) (iT RP.1 RP.2) (some (ag,RP.2))) λEP=>ah (aQ (aU EP.1 false) (bA 31 J6 EP.2) (some (ag,EP.2))) λMl=>ah (aQ (aU EP.1 false) (call (cO 58) [Ml.1] Ml.2) (some (ag,Ml.2))) λRq=>ah (aQ (aU EP.1 false) (iT Rq.1 Rq.2) (some (ag,Rq.2))) λC2=>ah (aQ (aU C2.1 true) (aO 1 J6 C2.2) (some (ag,C2.2))) λGG=>ah (aQ (aU C2.1 true) (aK GG.1 GG.2) (some (ag,GG.2))) λRA=>ah (aQ (aU C2.1 true) (aO 203 J2 RA.2) (some (ag,RA.2))) λMG=>ah (aQ (aU C2.1 true) (aK MG.1 MG.2) (some (ag,MG.2))) λQj=>ah (aQ (aU C2.1 true) (aw Tryz.prog .leq 3 false false RA.1 Qj.1 Qj.2) (some (ag,Qj.2))) λRs=>ah (aQ (aU EP.1 false) (bu C2.1 Rs.1 (.bool false) Rs.2) (some (ag,Rs.2))) λMz=>ah (aQ (aU yN.1 true) (bu EP.1 (.bool true) Mz.1 Mz.2) (some (ag,Mz.2))) λS3=>ah (bu yN.1 S3.1 (.bool false) S3.2) λPP=>bg PP.1 (mu call J1 J2 J4 J6 (.af 18) PP.2) (mu call J1 J2 J4 J6 J7 PP.2)
def CA(call:Eng.Callee)(x0 x1:ae)(W:AW):Option (ae×AW):=ah (cD x0 W) λr1=>ah (aY Tryz.prog 88 r1.2) λr2=>ah (aO 0 r1.1 r2.2) λr3=>ah (aO 4 r3.1 r3.2) λr4=>ah (aK r4.1 r4.2) λr5=>ah (gn 31 r5.1 x1 r5.2) λr6=>ah (bA 31 r6.1 r6.2) λr7=>ah (aY Tryz.prog 98 r7.2) λr8=>ah (bP 31 r8.1 r7.1 r8.2) λr9=>ah (bA 31 r8.1 r9.2) λbw=>ah (call (cO 57) [bw.1] bw.2) λbB=>ah (aw Tryz.prog .eql 30 false true bB.1 (.af 0) bB.2) λvA=>ah (aQ (aU vA.1 true) (aO 1 r8.1 vA.2) (some (ag,vA.2))) λSa=>ah (aQ (aU vA.1 true) (aK Sa.1 Sa.2) (some (ag,Sa.2))) λLr=>ah (aQ (aU vA.1 true) (aw Tryz.prog .lss 3 false true Lr.1 (.af 0) Lr.2) (some (ag,Lr.2))) λPl=>ah (aQ (aU vA.1 true) (iT Pl.1 Pl.2) (some (ag,Pl.2))) λH2=>ah (aQ (aU H2.1 false) (aO 1 r8.1 H2.2) (some (ag,H2.2))) λLG=>ah (aQ (aU H2.1 false) (aK LG.1 LG.2) (some (ag,LG.2))) λQp=>ah (aQ (aU H2.1 false) (aw Tryz.prog .gtr 3 false true Qp.1 (.af 1000000000) Qp.2) (some (ag,Qp.2))) λQZ=>ah (aQ (aU vA.1 true) (bu H2.1 (.bool true) QZ.1 QZ.2) (some (ag,QZ.2))) λGK=>ah (aQ (aU vA.1 true) (iT GK.1 GK.2) (some (ag,GK.2))) λGJ=>ah (aQ (aU GJ.1 false) (aO 2 r8.1 GJ.2) (some (ag,GJ.2))) λMC=>ah (aQ (aU GJ.1 false) (aK MC.1 MC.2) (some (ag,MC.2))) λSf=>ah (aQ (aU GJ.1 false) (aw Tryz.prog .lss 3 false true Sf.1 (.af 1) Sf.2) (some (ag,Sf.2))) λQS=>ah (aQ (aU vA.1 true) (bu GJ.1 (.bool true) QS.1 QS.2) (some (ag,QS.2))) λNr=>ah (aQ (aU vA.1 true) (iT Nr.1 Nr.2) (some (ag,Nr.2))) λHU=>ah (aQ (aU HU.1 false) (aO 2 r8.1 HU.2) (some (ag,HU.2))) λQF=>ah (aQ (aU HU.1 false) (aK QF.1 QF.2) (some (ag,QF.2))) λHu=>ah (aQ (aU HU.1 false) (aw Tryz.prog .gtr 3 false true Hu.1 (.af 64) Hu.2) (some (ag,Hu.2))) λQ6=>ah (aQ (aU vA.1 true) (bu HU.1 (.bool true) Q6.1 Q6.2) (some (ag,Q6.2))) λRh=>ah (bu vA.1 Rh.1 (.bool false) Rh.2) λRp=>bg Rp.1 (js call x1 r1.1 r2.1 r8.1 (.af 7) Rp.2) (js call x1 r1.1 r2.1 r8.1 bB.1 Rp.2)
def EW{x0 x1:ae}{W:AW}{r:ae×AW}(h:CA bm x0 x1 W=some r):bm (.func (.func 38) #[] #[]) [x0,x1] W=some (gc W r):=bH (nt:=231) (n:=2) (by kernel_rfl) (by kernel_rfl) rfl (aJ (by kernel_rfl) h)
def eU(call:Eng.Callee)(x0:ae)(W:AW):Option (ae×AW):=ah (aw Tryz.prog .eql 22 false true x0 (.slice none 0 0) W) λr1=>bg r1.1 (aF Tryz.prog [((.slice none 0 0),none)] r1.2) (ah (aD Tryz.prog 22 0 [] r1.2) λr2=>ah (aN Tryz.prog r2.2 #[22,22] r2.1 x0) λr3=>aF Tryz.prog [(r3.1,none)] r3.2)
def ik{x0:ae}{W:AW}{r:ae×AW}(h:eU bm x0 W=some r):bm (.func (.func 39) #[] #[]) [x0] W=some (gc W r):=bH (nt:=8) (n:=1) (by kernel_rfl) (by kernel_rfl) rfl (aJ (by kernel_rfl) h)
def oD(call:Eng.Callee)(x0:ae)(W:AW):Option (ae×AW):=ah (aw Tryz.prog .eql 64 false true x0 (.slice none 0 0) W) λr1=>bg r1.1 (aF Tryz.prog [((.slice none 0 0),none)] r1.2) (ah (aD Tryz.prog 64 0 [] r1.2) λr2=>ah (aN Tryz.prog r2.2 #[64,64] r2.1 x0) λr3=>aF Tryz.prog [(r3.1,none)] r3.2)
def tq{x0:ae}{W:AW}{r:ae×AW}(h:oD bm x0 W=some r):bm (.func (.func 40) #[] #[]) [x0] W=some (gc W r):=bH (nt:=8) (n:=1) (by kernel_rfl) (by kernel_rfl) rfl (aJ (by kernel_rfl) h)
def oV(call:Eng.Callee)(x0 x1:ae)(W:AW):Option (ae×AW):=ah (cD x1 W) λr1=>ah (be x0 r1.2) λr2=>ah (aO 6 r2.1 r2.2) λr3=>ah (aK r3.1 r3.2) λr4=>ah (aO 2 r1.1 r4.2) λr5=>ah (aK r5.1 r5.2) λr6=>ah (iG Tryz.prog 91 r4.1 r6.1 false r6.2) λr7=>ah (aw Tryz.prog .neq 123 false true r7.1 (.pointer none) r7.2) λr8=>bg r8.1 (aF Tryz.prog [((.af 8),none)] r8.2) (ah (be x0 r8.2) λr9=>ah (aO 5 r9.1 r9.2) λbw=>ah (aK bw.1 bw.2) λbB=>ah (aB Tryz.prog .len #[33] 3 #[false] [bB.1] bB.2) λbQ=>ah (aw Tryz.prog .eql 3 false true bQ.1 (.af 200) bQ.2) λbS=>bg bS.1 (aF Tryz.prog [((.af 3),none)] bS.2) (ah (aO 3 r1.1 bS.2) λcm=>ah (aK cm.1 cm.2) λbN=>ah (be x0 bN.2) λbV=>ah (aO 5 bV.1 bV.2) λcj=>ah (aK cj.1 cj.2) λcd=>ah (aB Tryz.prog .len #[33] 3 #[false] [cd.1] cd.2) λbO=>ah (aw Tryz.prog .add 3 false true bO.1 (.af 1) bO.2) λbW=>ah (aw Tryz.prog .neq 3 false false bN.1 bW.1 bW.2) λcz=>bg cz.1 (aF Tryz.prog [((.af 6),none)] cz.2) (ah (aO 5 r1.1 cz.2) λcn=>ah (bA 12 cn.1 cn.2) λcx=>ah (call (cO 75) [cx.1] cx.2) λcE=>ah (aw Tryz.prog .neq 30 false true cE.1 (.af 0) cE.2) λcH=>bg cH.1 (aF Tryz.prog [(cE.1,none)] cH.2) (ah (be x0 cH.2) λcZ=>ah (aO 6 cZ.1 cZ.2) λcX=>ah (aK cX.1 cX.2) λdm=>ah (aO 2 r1.1 dm.2) λcU=>ah (aK cU.1 cU.2) λdN=>ah (be x0 dN.2) λdK=>ah (aO 5 dK.1 dK.2) λdY=>ah (aK dY.1 dY.2) λdC=>ah (aB Tryz.prog .len #[33] 3 #[false] [dC.1] dC.2) λdv=>ah (bD Tryz.prog 125 [(0,dv.1)] dv.2) λdT=>ah (cD dT.1 dT.2) λdU=>ah (iJ Tryz.prog 91 dm.1 dN.1 dU.1 dU.2) λez=>ah (be x0 ez.2) λfU=>ah (aO 5 fU.1 fU.2) λfB=>ah (aK fB.1 fB.2) λfA=>ah (aO 3 r1.1 fA.2) λgd=>ah (aK gd.1 gd.2) λfS=>ah (aO 2 r1.1 fS.2) λgX=>ah (aK gX.1 gX.2) λgG=>ah (aO 5 r1.1 gG.2) λfH=>ah (bA 12 fH.1 fH.2) λiH=>ah (be x0 iH.2) λjB=>ah (aO 10 jB.1 jB.2) λi9=>ah (aK i9.1 i9.2) λkW=>ah (bD Tryz.prog 45 [(0,fS.1),(1,gG.1),(2,iH.1),(4,kW.1),(5,(.af (-1))),(6,(.af (-1)))] kW.2) λj0=>ah (aD Tryz.prog 33 1 [(0,j0.1)] j0.2) λlq=>ah (aN Tryz.prog lq.2 #[33,33] fA.1 lq.1) λlT=>ah (be x0 lT.2) λkY=>ah (aO 5 kY.1 kY.2) λj6=>ah (bP 1 j6.1 lT.1 j6.2) λpi=>aF Tryz.prog [((.af 0),none)] pi.2))))
def tf{x0 x1:ae}{W:AW}{r:ae×AW}(h:oV bm x0 x1 W=some r):bm (.func (.func 48) #[] #[]) [x0,x1] W=some (gc W r):=bH (nt:=71) (n:=2) (by kernel_rfl) (by kernel_rfl) rfl (aJ (by kernel_rfl) h)
def rj(call:Eng.Callee)(x0 x1:ae)(W:AW):Option (ae×AW):=ah (cD x1 W) λr1=>ah (bA 31 r1.1 r1.2) λr2=>ah (call (cO 76) [x0,r2.1,(.af 1)] r2.2) λr3=>ah (aw Tryz.prog .neq 30 false true r3.1 (.af 0) r3.2) λr4=>bg r4.1 (aF Tryz.prog [(r3.1,none)] r4.2) (ah (be x0 r4.2) λr5=>ah (aO 7 r5.1 r5.2) λr6=>ah (aK r6.1 r6.2) λr7=>ah (aO 4 r1.1 r7.2) λr8=>ah (aK r8.1 r8.2) λr9=>ah (iG Tryz.prog 92 r7.1 r9.1 true r9.2) λbw=>ah (ap bw.1 0 bw.2) λbB=>ah (ap bw.1 1 bB.2) λbQ=>bg bQ.1 (aF Tryz.prog [((.af 20),none)] bQ.2) (ah (be x0 bQ.2) λbS=>ah (aO 7 bS.1 bS.2) λcm=>ah (aK cm.1 cm.2) λbN=>ah (aO 4 r1.1 bN.2) λbV=>ah (aK bV.1 bV.2) λcj=>ah (aO 3 r1.1 cj.2) λcd=>ah (aK cd.1 cd.2) λbO=>ah (iJ Tryz.prog 92 bN.1 cj.1 bO.1 bO.2) λbW=>aF Tryz.prog [((.af 0),none)] bW.2))
def vC{x0 x1:ae}{W:AW}{r:ae×AW}(h:rj bm x0 x1 W=some r):bm (.func (.func 49) #[] #[]) [x0,x1] W=some (gc W r):=bH (nt:=33) (n:=2) (by kernel_rfl) (by kernel_rfl) rfl (aJ (by kernel_rfl) h)
def oL(call:Eng.Callee)(x0 x1:ae)(W:AW):Option (ae×AW):=ah (cD x1 W) λr1=>ah (be x0 r1.2) λr2=>ah (aO 5 r2.1 r2.2) λr3=>ah (aK r3.1 r3.2) λr4=>ah (be x0 r4.2) λr5=>ah (aO 6 r5.1 r5.2) λr6=>ah (aK r6.1 r6.2) λr7=>ah (aO 2 r1.1 r7.2) λr8=>ah (aK r8.1 r8.2) λr9=>ah (iG Tryz.prog 91 r7.1 r9.1 false r9.2) λbw=>ah (be bw.1 bw.2) λbB=>ah (aO 0 bB.1 bB.2) λbQ=>ah (aK bQ.1 bQ.2) λbS=>ah (gn 26 r4.1 bS.1 bS.2) λcm=>ah (be x0 cm.2) λbN=>ah (aO 10 bN.1 bN.2) λbV=>ah (aK bV.1 bV.2) λcj=>ah (aO 17 r1.1 cj.2) λcd=>ah (bA 9 cd.1 cd.2) λbO=>ah (be cm.1 bO.2) λbW=>ah (aO 24 bW.1 bW.2) λcz=>ah (bP 1 cz.1 cj.1 cz.2) λcn=>aQ (rE true (bA 9 cd.1 cn.2) bO.1&&true) (ah (be cm.1 cn.2) λcx=>ah (aO 14 cx.1 cx.2) λcE=>ah (bP 9 cE.1 bO.1 cE.2) λcH=>ah (bA 31 r1.1 cH.2) λcZ=>ah (call (cO 76) [x0,cZ.1,(.af 2)] cZ.2) λcX=>aF Tryz.prog [(cX.1,none)] cX.2) none
def tl{x0 x1:ae}{W:AW}{r:ae×AW}(h:oL bm x0 x1 W=some r):bm (.func (.func 50) #[] #[]) [x0,x1] W=some (gc W r):=bH (nt:=36) (n:=2) (by kernel_rfl) (by kernel_rfl) rfl (aJ (by kernel_rfl) h)
def rn(call:Eng.Callee)(x0 x1:ae)(W:AW):Option (ae×AW):=ah (cD x1 W) λr1=>ah (be x0 r1.2) λr2=>ah (aO 7 r2.1 r2.2) λr3=>ah (aK r3.1 r3.2) λr4=>ah (aO 4 r1.1 r4.2) λr5=>ah (aK r5.1 r5.2) λr6=>ah (aB Tryz.prog .delete #[92,3] 0 #[false,false] [r4.1,r6.1] r6.2) λr7=>ah (bA 31 r1.1 r7.2) λr8=>ah (call (cO 76) [x0,r8.1,(.af 3)] r8.2) λr9=>aF Tryz.prog [(r9.1,none)] r9.2
def vF{x0 x1:ae}{W:AW}{r:ae×AW}(h:rn bm x0 x1 W=some r):bm (.func (.func 51) #[] #[]) [x0,x1] W=some (gc W r):=bH (nt:=14) (n:=2) (by kernel_rfl) (by kernel_rfl) rfl (aJ (by kernel_rfl) h)
def oI(call:Eng.Callee)(x0 x1:ae)(W:AW):Option (ae×AW):=ah (cD x1 W) λr1=>ah (be x0 r1.2) λr2=>ah (aO 6 r2.1 r2.2) λr3=>ah (aK r3.1 r3.2) λr4=>ah (aO 2 r1.1 r4.2) λr5=>ah (aK r5.1 r5.2) λr6=>ah (iG Tryz.prog 91 r4.1 r6.1 false r6.2) λr7=>ah (be x0 r7.2) λr8=>ah (aO 0 r8.1 r8.2) λr9=>ah (aO 0 r9.1 r9.2) λbw=>ah (bA 4 bw.1 bw.2) λbB=>ah (be x0 bB.2) λbQ=>ah (aO 5 bQ.1 bQ.2) λbS=>ah (aK bS.1 bS.2) λcm=>ah (be r7.1 cm.2) λbN=>ah (aO 0 bN.1 bN.2) λbV=>ah (aK bV.1 bV.2) λcj=>ah (gn 26 cm.1 cj.1 cj.2) λcd=>ah (aO 2 cd.1 cd.2) λbO=>ah (bA 12 bO.1 bO.2) λbW=>ah (call (cO 77) [bB.1,bW.1] bW.2) λcz=>ah (ap cz.1 0 cz.2) λcn=>ah (ap cz.1 1 cn.2) λcx=>ah (be r7.1 cx.2) λcE=>ah (aO 1 cE.1 cE.2) λcH=>ah (aK cH.1 cH.2) λcZ=>ah (aw Tryz.prog .lss 3 false false cZ.1 cn.1 cZ.2) λcX=>bg cX.1 (aF Tryz.prog [((.af 6),none)] cX.2) (ah (be x0 cX.2) λdm=>ah (aO 5 dm.1 dm.2) λcU=>ah (aK cU.1 cU.2) λdN=>ah (be r7.1 dN.2) λdK=>ah (aO 0 dK.1 dK.2) λdY=>ah (aK dY.1 dY.2) λdC=>ah (be x0 dC.2) λdv=>ah (aO 10 dv.1 dv.2) λdT=>ah (aK dT.1 dT.2) λdU=>ah (gn 26 dN.1 dC.1 dU.2) λez=>ah (aO 25 ez.1 ez.2) λfU=>ah (bP 1 fU.1 dU.1 fU.2) λfB=>ah (be x0 fB.2) λfA=>ah (aO 6 fA.1 fA.2) λgd=>ah (aK gd.1 gd.2) λfS=>ah (aO 2 r1.1 fS.2) λgX=>ah (aK gX.1 gX.2) λgG=>ah (aB Tryz.prog .delete #[91,3] 0 #[false,false] [fS.1,gG.1] gG.2) λfH=>aF Tryz.prog [((.af 0),none)] fH.2)
def tj{x0 x1:ae}{W:AW}{r:ae×AW}(h:oI bm x0 x1 W=some r):bm (.func (.func 52) #[] #[]) [x0,x1] W=some (gc W r):=bH (nt:=61) (n:=2) (by kernel_rfl) (by kernel_rfl) rfl (aJ (by kernel_rfl) h)
def pH(call:Eng.Callee)(x0 x1:ae)(W:AW):Option (ae×AW):=ah (cD x1 W) λr1=>ah (be x0 r1.2) λr2=>ah (aO 6 r2.1 r2.2) λr3=>ah (aK r3.1 r3.2) λr4=>ah (aO 2 r1.1 r4.2) λr5=>ah (aK r5.1 r5.2) λr6=>ah (iG Tryz.prog 91 r4.1 r6.1 false r6.2) λr7=>ah (be x0 r7.2) λr8=>ah (aO 5 r8.1 r8.2) λr9=>ah (aK r9.1 r9.2) λbw=>ah (be r7.1 bw.2) λbB=>ah (aO 0 bB.1 bB.2) λbQ=>ah (aK bQ.1 bQ.2) λbS=>ah (gn 26 bw.1 bS.1 bS.2) λcm=>ah (bA 26 cm.1 cm.2) λbN=>ah (aY Tryz.prog 45 bN.2) λbV=>ah (bP 26 bV.1 bN.1 bV.2) λcj=>ah (aO 2 bV.1 cj.2) λcd=>ah (aO 7 cd.1 cd.2) λbO=>ah (bA 4 bO.1 bO.2) λbW=>ah (aO 26 r1.1 bW.2) λcz=>ah (bA 5 cz.1 cz.2) λcn=>ah (aY Tryz.prog 39 cn.2) λcx=>ah (aY Tryz.prog 60 cx.2) λcE=>ah (bP 4 cx.1 bW.1 cE.2) λcH=>aQ (rE true (bA 5 cz.1 cH.2) cn.1&&true) (ah (bP 5 cE.1 cn.1 cH.2) λcZ=>ah (aO 0 cE.1 cZ.2) λcX=>ah (aK cX.1 cX.2) λdm=>ah (aO 0 cx.1 dm.2) λcU=>ah (aK cU.1 cU.2) λdN=>ah (aw Tryz.prog .eql 36 false false dm.1 dN.1 dN.2) λdK=>ah (aQ (aU dK.1 true) (aO 1 cE.1 dK.2) (some (ag,dK.2))) λdY=>ah (aQ (aU dK.1 true) (aK dY.1 dY.2) (some (ag,dY.2))) λdC=>ah (aQ (aU dK.1 true) (aO 2 cx.1 dC.2) (some (ag,dC.2))) λdv=>ah (aQ (aU dK.1 true) (aK dv.1 dv.2) (some (ag,dv.2))) λdT=>ah (aQ (aU dK.1 true) (aw Tryz.prog .eql 37 false false dC.1 dT.1 dT.2) (some (ag,dT.2))) λdU=>ah (bu dK.1 dU.1 (.bool false) dU.2) λez=>ah (aQ (aU ez.1 true) (aO 2 cE.1 ez.2) (some (ag,ez.2))) λfU=>ah (aQ (aU ez.1 true) (aK fU.1 fU.2) (some (ag,fU.2))) λfB=>ah (aQ (aU ez.1 true) (aO 3 cx.1 fB.2) (some (ag,fB.2))) λfA=>ah (aQ (aU ez.1 true) (aK fA.1 fA.2) (some (ag,fA.2))) λgd=>ah (aQ (aU ez.1 true) (aw Tryz.prog .eql 37 false false fB.1 gd.1 gd.2) (some (ag,gd.2))) λfS=>ah (bu ez.1 fS.1 (.bool false) fS.2) λgX=>ah (aO 2 bV.1 gX.2) λgG=>ah (aO 0 gG.1 gG.2) λfH=>ah (aK fH.1 fH.2) λiH=>ah (aw Tryz.prog .neq 3 false true iH.1 (.af 9) iH.2) λjB=>ah (aQ (aU jB.1 false) (aO 24 bV.1 jB.2) (some (ag,jB.2))) λi9=>ah (aQ (aU jB.1 false) (aK i9.1 i9.2) (some (ag,i9.2))) λkW=>ah (aQ (aU jB.1 false) (aw Tryz.prog .lss 3 false true kW.1 (.af 0) kW.2) (some (ag,kW.2))) λj0=>ah (bu jB.1 (.bool true) j0.1 j0.2) λlq=>ah (aQ (aU lq.1 false) (aO 14 bV.1 lq.2) (some (ag,lq.2))) λlT=>ah (aQ (aU lq.1 false) (aO 0 lT.1 lT.2) (some (ag,lT.2))) λkY=>ah (aQ (aU lq.1 false) (aK kY.1 kY.2) (some (ag,kY.2))) λj6=>ah (aQ (aU lq.1 false) (aw Tryz.prog .neq 30 false true j6.1 (.af 0) j6.2) (some (ag,j6.2))) λpi=>ah (bu lq.1 (.bool true) pi.1 pi.2) λlz=>ah (aQ (aU lz.1 false) (iT r7.1 lz.2) (some (ag,lz.2))) λoh=>ah (aQ (aU lz.1 false) (be oh.1 oh.2) (some (ag,oh.2))) λo6=>ah (aQ (aU lz.1 false) (aO 2 o6.1 o6.2) (some (ag,o6.2))) λmR=>ah (aQ (aU lz.1 false) (aK mR.1 mR.2) (some (ag,mR.2))) λph=>ah (bu lz.1 (.bool true) ph.1 ph.2) λpe=>ah (aQ (aU pe.1 false) (iT gX.1 pe.2) (some (ag,pe.2))) λuu=>ah (aQ (aU pe.1 false) (BS Tryz.prog .not uu.1 uu.2) (some (ag,uu.2))) λrF=>ah (bu pe.1 (.bool true) rF.1 rF.2) λwI=>ah (aQ (aU wI.1 false) (aO 3 cE.1 wI.2) (some (ag,wI.2))) λBr=>ah (aQ (aU wI.1 false) (aK Br.1 Br.2) (some (ag,Br.2))) λwP=>ah (aQ (aU wI.1 false) (aw Tryz.prog .lss 3 false true wP.1 (.af 0) wP.2) (some (ag,wP.2))) λDe=>ah (bu wI.1 (.bool true) De.1 De.2) λwt=>ah (aQ (aU wt.1 false) (aO 3 cE.1 wt.2) (some (ag,wt.2))) λAx=>ah (aQ (aU wt.1 false) (aK Ax.1 Ax.2) (some (ag,Ax.2))) λzM=>ah (aQ (aU wt.1 false) (aw Tryz.prog .geq 3 false true zM.1 (.af 8) zM.2) (some (ag,zM.2))) λqo=>ah (bu wt.1 (.bool true) qo.1 qo.2) λwN=>ah (aQ (aU wN.1 false) (aO 4 cE.1 wN.2) (some (ag,wN.2))) λDf=>ah (aQ (aU wN.1 false) (aK Df.1 Df.2) (some (ag,Df.2))) λyG=>ah (aQ (aU wN.1 false) (aw Tryz.prog .lss 2 false true yG.1 (.af 0) yG.2) (some (ag,yG.2))) λEw=>ah (bu wN.1 (.bool true) Ew.1 Ew.2) λxZ=>bg xZ.1 (aF Tryz.prog [((.af 6),none)] xZ.2) (ah (be r7.1 xZ.2) λEp=>ah (aO 2 Ep.1 Ep.2) λEl=>ah (bP 1 El.1 (.bool true) El.2) λE1=>aF Tryz.prog [((.af 0),none)] E1.2)) none
def tU{x0 x1:ae}{W:AW}{r:ae×AW}(h:pH bm x0 x1 W=some r):bm (.func (.func 53) #[] #[]) [x0,x1] W=some (gc W r):=bH (nt:=94) (n:=2) (by kernel_rfl) (by kernel_rfl) rfl (aJ (by kernel_rfl) h)
def xQ(call:Eng.Callee)(x0:ae)(W:AW):Option (ae×AW):=ah (cD x0 W) λr1=>ah (aO 0 r1.1 r1.2) λr2=>ah (aK r2.1 r2.2) λr3=>ah (aw Tryz.prog .lss 3 false true r3.1 (.af 1) r3.2) λr4=>ah (aQ (aU r4.1 false) (aO 0 r1.1 r4.2) (some (ag,r4.2))) λr5=>ah (aQ (aU r4.1 false) (aK r5.1 r5.2) (some (ag,r5.2))) λr6=>ah (aQ (aU r4.1 false) (aw Tryz.prog .gtr 3 false true r6.1 (.af 6) r6.2) (some (ag,r6.2))) λr7=>ah (bu r4.1 (.bool true) r7.1 r7.2) λr8=>bg r8.1 (aF Tryz.prog [((.af 2),none)] r8.2) (ah (aO 0 r1.1 r8.2) λr9=>ah (aK r9.1 r9.2) λbw=>ah (aw Tryz.prog .neq 3 false true bw.1 (.af 1) bw.2) λbB=>ah (aQ (aU bB.1 true) (aO 5 r1.1 bB.2) (some (ag,bB.2))) λbQ=>ah (aQ (aU bB.1 true) (bA 12 bQ.1 bQ.2) (some (ag,bQ.2))) λbS=>ah (aQ (aU bB.1 true) (bD Tryz.prog 41 [] bS.2) (some (ag,bS.2))) λcm=>ah (aQ (aU bB.1 true) (aw Tryz.prog .neq 41 false false bS.1 cm.1 cm.2) (some (ag,cm.2))) λbN=>ah (bu bB.1 bN.1 (.bool false) bN.2) λbV=>ah (aQ (aU bV.1 false) (aO 0 r1.1 bV.2) (some (ag,bV.2))) λcj=>ah (aQ (aU bV.1 false) (aK cj.1 cj.2) (some (ag,cj.2))) λcd=>ah (aQ (aU bV.1 false) (aw Tryz.prog .neq 3 false true cd.1 (.af 2) cd.2) (some (ag,cd.2))) λbO=>ah (aQ (aU bV.1 false) (iT bO.1 bO.2) (some (ag,bO.2))) λbW=>ah (aQ (aU bW.1 true) (aO 0 r1.1 bW.2) (some (ag,bW.2))) λcz=>ah (aQ (aU bW.1 true) (aK cz.1 cz.2) (some (ag,cz.2))) λcn=>ah (aQ (aU bW.1 true) (aw Tryz.prog .neq 3 false true cn.1 (.af 4) cn.2) (some (ag,cn.2))) λcx=>ah (aQ (aU bV.1 false) (bu bW.1 cx.1 (.bool false) cx.2) (some (ag,cx.2))) λcE=>ah (aQ (aU bV.1 false) (iT cE.1 cE.2) (some (ag,cE.2))) λcH=>ah (aQ (aU cH.1 true) (aO 4 r1.1 cH.2) (some (ag,cH.2))) λcZ=>ah (aQ (aU cH.1 true) (aK cZ.1 cZ.2) (some (ag,cZ.2))) λcX=>ah (aQ (aU cH.1 true) (aw Tryz.prog .neq 3 false true cX.1 (.af 0) cX.2) (some (ag,cX.2))) λdm=>ah (aQ (aU bV.1 false) (bu cH.1 dm.1 (.bool false) dm.2) (some (ag,dm.2))) λcU=>ah (bu bV.1 (.bool true) cU.1 cU.2) λdN=>ah (aQ (aU dN.1 false) (aO 0 r1.1 dN.2) (some (ag,dN.2))) λdK=>ah (aQ (aU dN.1 false) (aK dK.1 dK.2) (some (ag,dK.2))) λdY=>ah (aQ (aU dN.1 false) (aw Tryz.prog .neq 3 false true dY.1 (.af 3) dY.2) (some (ag,dY.2))) λdC=>ah (aQ (aU dN.1 false) (iT dC.1 dC.2) (some (ag,dC.2))) λdv=>ah (aQ (aU dv.1 true) (aO 17 r1.1 dv.2) (some (ag,dv.2))) λdT=>ah (aQ (aU dv.1 true) (bA 9 dT.1 dT.2) (some (ag,dT.2))) λdU=>ah (aQ (aU dv.1 true) (bD Tryz.prog 43 [] dU.2) (some (ag,dU.2))) λez=>ah (aQ (aU dv.1 true) (aw Tryz.prog .neq 43 false false dU.1 ez.1 ez.2) (some (ag,ez.2))) λfU=>ah (aQ (aU dN.1 false) (bu dv.1 fU.1 (.bool false) fU.2) (some (ag,fU.2))) λfB=>ah (bu dN.1 (.bool true) fB.1 fB.2) λfA=>ah (aQ (aU fA.1 false) (aO 0 r1.1 fA.2) (some (ag,fA.2))) λgd=>ah (aQ (aU fA.1 false) (aK gd.1 gd.2) (some (ag,gd.2))) λfS=>ah (aQ (aU fA.1 false) (aw Tryz.prog .neq 3 false true fS.1 (.af 6) fS.2) (some (ag,fS.2))) λgX=>ah (aQ (aU fA.1 false) (iT gX.1 gX.2) (some (ag,gX.2))) λgG=>ah (aQ (aU gG.1 true) (aO 26 r1.1 gG.2) (some (ag,gG.2))) λfH=>ah (aQ (aU gG.1 true) (bA 5 fH.1 fH.2) (some (ag,fH.2))) λiH=>ah (aQ (aU gG.1 true) (bD Tryz.prog 60 [] iH.2) (some (ag,iH.2))) λjB=>ah (aQ (aU gG.1 true) (aw Tryz.prog .neq 60 false false iH.1 jB.1 jB.2) (some (ag,jB.2))) λi9=>ah (aQ (aU fA.1 false) (bu gG.1 i9.1 (.bool false) i9.2) (some (ag,i9.2))) λkW=>ah (bu fA.1 (.bool true) kW.1 kW.2) λj0=>bg j0.1 (aF Tryz.prog [((.af 2),none)] j0.2) (aF Tryz.prog [((.af 0),none)] j0.2))
def Bi{x0:ae}{W:AW}{r:ae×AW}(h:xQ bm x0 W=some r):bm (.func (.func 57) #[] #[]) [x0] W=some (gc W r):=bH (nt:=57) (n:=1) (by kernel_rfl) (by kernel_rfl) rfl (aJ (by kernel_rfl) h)
def FW(call:Eng.Callee)(x0:ae)(W:AW):Option (ae×AW):=ah (cD x0 W) λr1=>ah (aO 0 r1.1 r1.2) λr2=>ah (aK r2.1 r2.2) λr3=>ah (aw Tryz.prog .geq 3 false true r3.1 (.af 2) r3.2) λr4=>ah (aQ (aU r4.1 true) (aO 0 r1.1 r4.2) (some (ag,r4.2))) λr5=>ah (aQ (aU r4.1 true) (aK r5.1 r5.2) (some (ag,r5.2))) λr6=>ah (aQ (aU r4.1 true) (aw Tryz.prog .leq 3 false true r6.1 (.af 4) r6.2) (some (ag,r6.2))) λr7=>ah (bu r4.1 r7.1 (.bool false) r7.2) λr8=>aF Tryz.prog [(r8.1,none)] r8.2
def Ha{x0:ae}{W:AW}{r:ae×AW}(h:FW bm x0 W=some r):bm (.func (.func 58) #[] #[]) [x0] W=some (gc W r):=bH (nt:=11) (n:=1) (by kernel_rfl) (by kernel_rfl) rfl (aJ (by kernel_rfl) h)
def vY(call:Eng.Callee)(x0 x1:ae)(W:AW):Option (ae×AW):=ah (cD x0 W) λr1=>ah (aY Tryz.prog 88 r1.2) λr2=>ah (aO 0 r1.1 r2.2) λr3=>ah (aO 4 r3.1 r3.2) λr4=>ah (aK r4.1 r4.2) λr5=>ah (gn 31 r5.1 x1 r5.2) λr6=>ah (bA 31 r6.1 r6.2) λr7=>ah (aY Tryz.prog 98 r7.2) λr8=>ah (bP 31 r8.1 r7.1 r8.2) λr9=>ah (aO 2 r8.1 r9.2) λbw=>ah (aK bw.1 bw.2) λbB=>ah (aO 6 r1.1 bB.2) λbQ=>ah (Gt 65 3 bQ.1 bB.1 bQ.2) λbS=>ah (aO 0 bS.1 bS.2) λcm=>ah (aK cm.1 cm.2) λbN=>ah (aw Tryz.prog .geq 3 false true bN.1 (.af 0) bN.2) λbV=>bg bV.1 (ah (bA 204 r1.1 bV.2) λcj=>ah (bP 204 r2.1 cj.1 cj.2) λcd=>aF Tryz.prog [(r2.1,some 88),((.af 8),none)] cd.2) (ah (aO 5 r1.1 bV.2) λbO=>ah (aK bO.1 bO.2) λbW=>ah (aB Tryz.prog .len #[33] 3 #[false] [bW.1] bW.2) λcz=>ah (aw Tryz.prog .eql 3 false true cz.1 (.af 200) cz.2) λcn=>bg cn.1 (ah (bA 204 r1.1 cn.2) λcx=>ah (bP 204 r2.1 cx.1 cx.2) λcE=>aF Tryz.prog [(r2.1,some 88),((.af 3),none)] cE.2) (ah (aO 3 r8.1 cn.2) λcH=>ah (aK cH.1 cH.2) λcZ=>ah (aO 5 r1.1 cZ.2) λcX=>ah (aK cX.1 cX.2) λdm=>ah (aB Tryz.prog .len #[33] 3 #[false] [dm.1] dm.2) λcU=>ah (aw Tryz.prog .add 3 false true cU.1 (.af 1) cU.2) λdN=>ah (aw Tryz.prog .neq 3 false false cZ.1 dN.1 dN.2) λdK=>bg dK.1 (ah (bA 204 r1.1 dK.2) λdY=>ah (bP 204 r2.1 dY.1 dY.2) λdC=>aF Tryz.prog [(r2.1,some 88),((.af 6),none)] dC.2) (ah (aO 5 r8.1 dK.2) λdv=>ah (bA 12 dv.1 dv.2) λdT=>ah (call (cO 79) [dT.1] dT.2) λdU=>ah (aw Tryz.prog .neq 30 false true dU.1 (.af 0) dU.2) λez=>bg ez.1 (ah (bA 204 r1.1 ez.2) λfU=>ah (bP 204 r2.1 fU.1 fU.2) λfB=>aF Tryz.prog [(r2.1,some 88),(dU.1,none)] fB.2) (ah (aO 2 r8.1 ez.2) λfA=>ah (aK fA.1 fA.2) λgd=>ah (aO 5 r1.1 gd.2) λfS=>ah (aK fS.1 fS.2) λgX=>ah (aB Tryz.prog .len #[33] 3 #[false] [gX.1] gX.2) λgG=>ah (bD Tryz.prog 85 [(0,gG.1)] gG.2) λfH=>ah (aO 6 r1.1 fH.2) λiH=>ah (Gt 65 3 iH.1 gd.1 iH.2) λjB=>ah (bP 3 jB.1 fH.1 jB.2) λi9=>ah (aD Tryz.prog 33 0 [] i9.2) λkW=>ah (aO 5 r1.1 kW.2) λj0=>ah (aK j0.1 j0.2) λlq=>ah (aO 3 r8.1 lq.2) λlT=>ah (aK lT.1 lT.2) λkY=>ah (aO 2 r8.1 kY.2) λj6=>ah (aK j6.1 j6.2) λpi=>ah (aO 5 r8.1 pi.2) λlz=>ah (bA 12 lz.1 lz.2) λoh=>ah (bD Tryz.prog 45 [(0,kY.1),(1,pi.1),(2,oh.1),(4,x1),(5,(.af (-1))),(6,(.af (-1)))] oh.2) λo6=>ah (aD Tryz.prog 33 1 [(0,o6.1)] o6.2) λmR=>ah (aN Tryz.prog mR.2 #[33,33] kW.1 lq.1) λph=>aQ (rE true (bA 12 lz.1 ph.2) oh.1&&(rE true (aK j6.1 ph.2) pi.1&&(rE true (aK lT.1 ph.2) kY.1&&true))) (ah (aN Tryz.prog ph.2 #[33,33] ph.1 mR.1) λpe=>ah (aO 5 r1.1 pe.2) λuu=>ah (bP 1 uu.1 pe.1 uu.2) λrF=>ah (bA 204 r1.1 rF.2) λwI=>ah (bP 204 r2.1 wI.1 wI.2) λBr=>aF Tryz.prog [(r2.1,some 88),((.af 0),none)] Br.2) none))))
def zC{x0 x1:ae}{W:AW}{r:ae×AW}(h:vY bm x0 x1 W=some r):bm (.func (.func 59) #[] #[]) [x0,x1] W=some (gc W r):=bH (nt:=66) (n:=2) (by kernel_rfl) (by kernel_rfl) rfl (aJ (by kernel_rfl) h)
def vR(call:Eng.Callee)(x0 x1:ae)(W:AW):Option (ae×AW):=ah (cD x0 W) λr1=>ah (aY Tryz.prog 88 r1.2) λr2=>ah (aO 0 r1.1 r2.2) λr3=>ah (aO 4 r3.1 r3.2) λr4=>ah (aK r4.1 r4.2) λr5=>ah (gn 31 r5.1 x1 r5.2) λr6=>ah (bA 31 r6.1 r6.2) λr7=>ah (aY Tryz.prog 98 r7.2) λr8=>ah (bP 31 r8.1 r7.1 r8.2) λr9=>ah (aO 2 r8.1 r9.2) λbw=>ah (aK bw.1 bw.2) λbB=>ah (aO 6 r1.1 bB.2) λbQ=>ah (Gt 65 3 bQ.1 bB.1 bQ.2) λbS=>ah (bA 3 bS.1 bS.2) λcm=>ah (aY Tryz.prog 85 cm.2) λbN=>ah (bP 3 bN.1 cm.1 bN.2) λbV=>ah (aO 5 r1.1 bV.2) λcj=>ah (aK cj.1 cj.2) λcd=>ah (aO 0 bN.1 cd.2) λbO=>ah (aK bO.1 bO.2) λbW=>ah (gn 26 cd.1 bW.1 bW.2) λcz=>ah (bA 26 cz.1 cz.2) λcn=>ah (aY Tryz.prog 45 cn.2) λcx=>ah (bP 26 cx.1 cn.1 cx.2) λcE=>ah (aO 2 cx.1 cE.2) λcH=>ah (aO 7 cH.1 cH.2) λcZ=>ah (bA 4 cZ.1 cZ.2) λcX=>ah (aY Tryz.prog 39 cX.2) λdm=>ah (bP 4 dm.1 cX.1 dm.2) λcU=>ah (aO 2 cx.1 cU.2) λdN=>ah (aO 0 dN.1 dN.2) λdK=>ah (aK dK.1 dK.2) λdY=>ah (aw Tryz.prog .neq 3 false true dY.1 (.af 9) dY.2) λdC=>ah (aQ (aU dC.1 false) (aO 24 cx.1 dC.2) (some (ag,dC.2))) λdv=>ah (aQ (aU dC.1 false) (aK dv.1 dv.2) (some (ag,dv.2))) λdT=>ah (aQ (aU dC.1 false) (aw Tryz.prog .lss 3 false true dT.1 (.af 0) dT.2) (some (ag,dT.2))) λdU=>ah (bu dC.1 (.bool true) dU.1 dU.2) λez=>ah (aQ (aU ez.1 false) (aO 14 cx.1 ez.2) (some (ag,ez.2))) λfU=>ah (aQ (aU ez.1 false) (aO 0 fU.1 fU.2) (some (ag,fU.2))) λfB=>ah (aQ (aU ez.1 false) (aK fB.1 fB.2) (some (ag,fB.2))) λfA=>ah (aQ (aU ez.1 false) (aw Tryz.prog .neq 30 false true fA.1 (.af 0) fA.2) (some (ag,fA.2))) λgd=>ah (bu ez.1 (.bool true) gd.1 gd.2) λfS=>ah (aQ (aU fS.1 false) (aO 2 bN.1 fS.2) (some (ag,fS.2))) λgX=>ah (aQ (aU fS.1 false) (aK gX.1 gX.2) (some (ag,gX.2))) λgG=>ah (bu fS.1 (.bool true) gG.1 gG.2) λfH=>ah (aQ (aU fH.1 false) (aO 26 r8.1 fH.2) (some (ag,fH.2))) λiH=>ah (aQ (aU fH.1 false) (aO 0 iH.1 iH.2) (some (ag,iH.2))) λjB=>ah (aQ (aU fH.1 false) (aK jB.1 jB.2) (some (ag,jB.2))) λi9=>ah (aQ (aU fH.1 false) (aO 0 dm.1 i9.2) (some (ag,i9.2))) λkW=>ah (aQ (aU fH.1 false) (aK kW.1 kW.2) (some (ag,kW.2))) λj0=>ah (aQ (aU fH.1 false) (aw Tryz.prog .neq 36 false false i9.1 j0.1 j0.2) (some (ag,j0.2))) λlq=>ah (bu fH.1 (.bool true) lq.1 lq.2) λlT=>ah (aQ (aU lT.1 false) (aO 26 r8.1 lT.2) (some (ag,lT.2))) λkY=>ah (aQ (aU lT.1 false) (aO 1 kY.1 kY.2) (some (ag,kY.2))) λj6=>ah (aQ (aU lT.1 false) (aK j6.1 j6.2) (some (ag,j6.2))) λpi=>ah (aQ (aU lT.1 false) (aO 2 dm.1 pi.2) (some (ag,pi.2))) λlz=>ah (aQ (aU lT.1 false) (aK lz.1 lz.2) (some (ag,lz.2))) λoh=>ah (aQ (aU lT.1 false) (aw Tryz.prog .neq 37 false false pi.1 oh.1 oh.2) (some (ag,oh.2))) λo6=>ah (bu lT.1 (.bool true) o6.1 o6.2) λmR=>ah (aQ (aU mR.1 false) (aO 26 r8.1 mR.2) (some (ag,mR.2))) λph=>ah (aQ (aU mR.1 false) (aO 2 ph.1 ph.2) (some (ag,ph.2))) λpe=>ah (aQ (aU mR.1 false) (aK pe.1 pe.2) (some (ag,pe.2))) λuu=>ah (aQ (aU mR.1 false) (aO 3 dm.1 uu.2) (some (ag,uu.2))) λrF=>ah (aQ (aU mR.1 false) (aK rF.1 rF.2) (some (ag,rF.2))) λwI=>ah (aQ (aU mR.1 false) (aw Tryz.prog .neq 37 false false uu.1 wI.1 wI.2) (some (ag,wI.2))) λBr=>ah (bu mR.1 (.bool true) Br.1 Br.2) λwP=>ah (aQ (aU wP.1 false) (aO 26 r8.1 wP.2) (some (ag,wP.2))) λDe=>ah (aQ (aU wP.1 false) (aO 3 De.1 De.2) (some (ag,De.2))) λwt=>ah (aQ (aU wP.1 false) (aK wt.1 wt.2) (some (ag,wt.2))) λAx=>ah (aQ (aU wP.1 false) (aw Tryz.prog .lss 3 false true Ax.1 (.af 0) Ax.2) (some (ag,Ax.2))) λzM=>ah (bu wP.1 (.bool true) zM.1 zM.2) λqo=>ah (aQ (aU qo.1 false) (aO 26 r8.1 qo.2) (some (ag,qo.2))) λwN=>ah (aQ (aU qo.1 false) (aO 3 wN.1 wN.2) (some (ag,wN.2))) λDf=>ah (aQ (aU qo.1 false) (aK Df.1 Df.2) (some (ag,Df.2))) λyG=>ah (aQ (aU qo.1 false) (aw Tryz.prog .geq 3 false true yG.1 (.af 8) yG.2) (some (ag,yG.2))) λEw=>ah (bu qo.1 (.bool true) Ew.1 Ew.2) λxZ=>ah (aQ (aU xZ.1 false) (aO 26 r8.1 xZ.2) (some (ag,xZ.2))) λEp=>ah (aQ (aU xZ.1 false) (aO 4 Ep.1 Ep.2) (some (ag,Ep.2))) λEl=>ah (aQ (aU xZ.1 false) (aK El.1 El.2) (some (ag,El.2))) λE1=>ah (aQ (aU xZ.1 false) (aw Tryz.prog .lss 2 false true E1.1 (.af 0) E1.2) (some (ag,E1.2))) λIf=>ah (bu xZ.1 (.bool true) If.1 If.2) λHk=>bg Hk.1 (ah (bA 204 r1.1 Hk.2) λFl=>ah (bP 204 r2.1 Fl.1 Fl.2) λIa=>aF Tryz.prog [(r2.1,some 88),((.af 6),none)] Ia.2) (ah (aO 2 r8.1 Hk.2) λID=>ah (aK ID.1 ID.2) λE2=>ah (aO 6 r1.1 E2.2) λH6=>ah (Gt 65 3 H6.1 E2.1 H6.2) λM8=>ah (aO 2 M8.1 M8.2) λIj=>ah (bP 1 Ij.1 (.bool true) Ij.2) λPT=>ah (bA 204 r1.1 PT.2) λOA=>ah (bP 204 r2.1 OA.1 OA.2) λRL=>aF Tryz.prog [(r2.1,some 88),((.af 0),none)] RL.2)
def zi{x0 x1:ae}{W:AW}{r:ae×AW}(h:vR bm x0 x1 W=some r):bm (.func (.func 61) #[] #[]) [x0,x1] W=some (gc W r):=bH (nt:=98) (n:=2) (by kernel_rfl) (by kernel_rfl) rfl (aJ (by kernel_rfl) h)
def jl(call:Eng.Callee)(x0 x1 x2:ae)(W:AW):Option (ae×AW):=ah (cD x1 W) λr1=>ah (be x0 r1.2) λr2=>ah (aO 6 r2.1 r2.2) λr3=>ah (aK r3.1 r3.2) λr4=>ah (aO 2 r1.1 r4.2) λr5=>ah (aK r5.1 r5.2) λr6=>ah (iG Tryz.prog 91 r4.1 r6.1 false r6.2) λr7=>ah (be x0 r7.2) λr8=>ah (aO 0 r8.1 r8.2) λr9=>ah (aO 0 r9.1 r9.2) λbw=>ah (bA 4 bw.1 bw.2) λbB=>ah (be x0 bB.2) λbQ=>ah (aO 5 bQ.1 bQ.2) λbS=>ah (aK bS.1 bS.2) λcm=>ah (be r7.1 cm.2) λbN=>ah (aO 0 bN.1 bN.2) λbV=>ah (aK bV.1 bV.2) λcj=>ah (gn 26 cm.1 cj.1 cj.2) λcd=>ah (aO 2 cd.1 cd.2) λbO=>ah (bA 12 bO.1 bO.2) λbW=>ah (be r7.1 bW.2) λcz=>ah (aO 1 cz.1 cz.2) λcn=>ah (aK cn.1 cn.2) λcx=>ah (aY Tryz.prog 135 cx.2) λcE=>ah (call (cO 100) [bB.1,bW.1,cx.1] cE.2) λcH=>ah (ap cH.1 0 cH.2) λcZ=>ah (ap cH.1 1 cZ.2) λcX=>ah (bP 2 cE.1 cZ.1 cX.2) λdm=>ah (aw Tryz.prog .neq 30 false true cX.1 (.af 0) dm.2) λcU=>ah (aQ (aU cU.1 false) (bA 2 cE.1 cU.2) (some (ag,cU.2))) λdN=>ah (aQ (aU cU.1 false) (iT x2 dN.2) (some (ag,dN.2))) λdK=>ah (aQ (aU cU.1 false) (aO 4 r1.1 dK.2) (some (ag,dK.2))) λdY=>ah (aQ (aU cU.1 false) (aK dY.1 dY.2) (some (ag,dY.2))) λdC=>ah (aQ (aU cU.1 false) (bD Tryz.prog 135 [(0,dK.1),(1,dC.1)] dC.2) (some (ag,dC.2))) λdv=>ah (aQ (aU cU.1 false) (aw Tryz.prog .neq 135 false false dN.1 dv.1 dv.2) (some (ag,dv.2))) λdT=>ah (bu cU.1 (.bool true) dT.1 dT.2) λdU=>bg dU.1 (aF Tryz.prog [((.af 6),none)] dU.2) (ah (be r7.1 dU.2) λez=>ah (aO 1 ez.1 ez.2) λfU=>ah (aK fU.1 fU.2) λfB=>ah (aw Tryz.prog .add 3 false true fB.1 (.af 1) fB.2) λfA=>ah (be r7.1 fA.2) λgd=>ah (aO 1 gd.1 gd.2) λfS=>ah (bP 1 fS.1 fA.1 fS.2) λgX=>aF Tryz.prog [((.af 0),none)] gX.2)
def sK{x0 x1 x2:ae}{W:AW}{r:ae×AW}(h:jl bm x0 x1 x2 W=some r):bm (.func (.func 76) #[] #[]) [x0,x1,x2] W=some (gc W r):=bH (nt:=58) (n:=3) (by kernel_rfl) (by kernel_rfl) rfl (aJ (by kernel_rfl) h)
def wu1:aU ag false=false:=aJ rfl rfl
def wu2:aU ag true=false:=aJ rfl rfl
def pEq(b:Nat)(c d:Bool)(W:AW):aw Tryz.prog .eql 123 c d (cr b) (.pointer none) W=some (.bool false,W):=aJ (by kernel_rfl) rfl
def ami(c d:Bool)(W:AW):aw Tryz.prog .eql 123 c d (.pointer none) (.pointer none) W=some (.bool true,W):=aJ (by kernel_rfl) rfl
def pNe(b:Nat)(c d:Bool)(W:AW):aw Tryz.prog .neq 123 c d (cr b) (.pointer none) W=some (.bool true,W):=aJ (by kernel_rfl) rfl
def NK(c d:Bool)(W:AW):aw Tryz.prog .neq 123 c d (.pointer none) (.pointer none) W=some (.bool false,W):=aJ (by kernel_rfl) rfl
def aaC:Tryz.prog.underlying 91=some (.map 3 123):=by kernel_rfl
def adr:Tryz.prog.underlying 92=some (.map 3 3):=by kernel_rfl
def aeZ:kS Tryz.prog 123=some (.pointer none):=by kernel_rfl
def tz3:kS Tryz.prog 3=some (.af 0):=by kernel_rfl
abbrev Eo(v:cA)(sv ev cv:ae)(mo ml:Nat)(tn st at_:Int):List ae:=[.af v.sh,.af v.pq,.af v.pp,sv,ev,cv,.map (some mo),.map (some ml),.af tn,.af st,.af at_]
abbrev gE:List ae:=[.nilFunc,.func (.func 48) #[] #[],.func (.func 49) #[] #[],.func (.func 50) #[] #[],.func (.func 51) #[] #[],.func (.func 52) #[] #[],.func (.func 53) #[] #[]]
structure iy (V U:AW) (v:cA) (sv ev:ae) (s:RS) (at_:Int) (cv:ae) (bo:Option Nat) (pb:Int->Nat):Prop where
 le:Le V U
 nx:V.next+5<=U.next
 w:U.get (V.next+2)=some (.cells (Eo v sv ev cv V.next (V.next+1) s.tn s.st at_))
 r:U.get (V.next+4)=some (.cells gE)
 c:nA U 26 gq cv s.cl bo
 o:∃n,qP U V.next (λk=>(s.of k).map λ_=>cr (pb k)) n
 l:∃n,qP U (V.next+1) (λk=>(s.lk k).map (Value.int .i64)) n
 p:∀k o,s.of k=some o->V.next+5<=pb k/\pb k<U.next/\bo≠some (pb k)/\U.get (pb k)=some (.cells [.af (o.c:Int),.af (o.s:Int),.bool o.e])
 b:∀B,bo=some B->V.next+5<=B
 inj:∀k k' o o',s.of k=some o->s.of k'=some o'->pb k=pb k'->k=k'
section
variable {V U U':AW} {v:cA} {sv ev cv:ae} {s:RS} {at_:Int} {bo:Option Nat} {pb:Int->Nat}
def iy.mono(h:iy V U v sv ev s at_ cv bo pb)(a8:Le U U'):iy V U' v sv ev s at_ cv bo pb:=by
 have hn:=h.nx;have E6:=a8.next;obtain⟨n,ho⟩:=h.o;obtain⟨m,hl⟩:=h.l
 exact⟨h.le.trans a8,by omega,(a8.get _ (by omega)).trans h.w,(a8.get _ (by omega)).trans h.r,h.c.dq E6 λB hB=>a8.get B (h.c.lt hB),⟨n,ho.dq (a8.get _ (by omega))⟩,⟨m,hl.dq (a8.get _ (by omega))⟩,
  λk o hk=>let⟨a,b,c,d⟩:=h.p k o hk;⟨a,by omega,c,(a8.get _ b).trans d⟩,h.b,h.inj⟩
def iy.put(h:iy V U v sv ev s at_ cv bo pb)(tn st a:Int):iy V (U.put (V.next+2) (.cells (Eo v sv ev cv V.next (V.next+1) tn st a))) v sv ev {s with tn:=tn,st:=st} a cv bo pb:=by have hn:=h.nx;obtain⟨n,ho⟩:=h.o;obtain⟨m,hl⟩:=h.l;refine⟨h.le.put (by omega) _,by rw[AW.cT];omega,AW.bz _ _ _,(AW.aE _ _ (by omega)).trans h.r,h.c.dq (aP _) λB hB=>AW.aE _ _ (by have:=h.b B hB;omega),⟨n,ho.dq (AW.aE _ _ (by omega))⟩,⟨m,hl.dq (AW.aE _ _ (by omega))⟩,λk o hk=>?_,h.b,h.inj⟩;obtain⟨a,b,c,d⟩:=h.p k o hk;exact⟨a,b,c,(AW.aE _ _ (by omega)).trans d⟩
def iy.ld(h:iy V U v sv ev s at_ cv bo pb):aK (.pointer (some ⟨V.next+2,5,none⟩)) U=some (cv,U)/\aK (.pointer (some ⟨V.next+2,6,none⟩)) U=some (.map (some V.next),U)/\aK (.pointer (some ⟨V.next+2,7,none⟩)) U=some (.map (some (V.next+1)),U)/\aK (.pointer (some ⟨V.next+2,8,none⟩)) U=some (.af s.tn,U)/\aK (.pointer (some ⟨V.next+2,9,none⟩)) U=some (.af s.st,U)/\aK (.pointer (some ⟨V.next+2,10,none⟩)) U=some (.af at_,U)/\bA 4 (cr (V.next+2)) U=some (fc v sv,U):=
 ⟨eQ h.w rfl,eQ h.w rfl,eQ h.w rfl,eQ h.w rfl,eQ h.w rfl,eQ h.w rfl,eh (bk h.w) rfl⟩
def iy.look(h:iy V U v sv ev s at_ cv bo pb)(k:Int):iG Tryz.prog 91 (.map (some V.next)) (.af k) false U=some (((s.of k).map λ_=>cr (pb k)).getD (.pointer none),U):=by obtain⟨n,ho⟩:=h.o;exact TR ho aaC Tryz.underlying3 aeZ k
def iy.agS(h:iy V U v sv ev s at_ cv bo pb)(k:Int):iG Tryz.prog 92 (.map (some (V.next+1))) (.af k) true U=some (.tuple #[((s.lk k).map (Value.int .i64)).getD (.af 0),.bool (s.lk k).isSome],U):=by obtain⟨n,hl⟩:=h.l;have:=Rt hl adr Tryz.underlying3 tz3 k;rw[this];cases s.lk k<;>rfl
def iy.call(h:iy V U v sv ev s at_ cv bo pb){c:Nat}(hc:c<s.cl.length):
 ∃B,bo=some B/\B<U.next/\U.get B=some (.cells (s.cl.flatMap gq))/\(∀W' kk,gn 26 cv (.int kk (c:Int)) W'=some (.pointer (some ⟨B,c*26,none⟩),W')):=by
 rcases h.c with⟨e,-⟩|⟨h0,B,h1,h2,h3,h4⟩
 ·rw[e]at hc;cases hc
 ·exact⟨B,h1,h2,h4,λW' kk=>by rw[h3,sf (by omega),aI]⟩
end
def Cl{m:List pc}{i:Nat}(hi:i<=m.length):((m.take i).flatMap gq).length=i*26:=by rw[ch dA,dF,o8 hi]
def xi{m:List pc}{i:Nat}(hi:i<m.length)(y:pc):(m.set i y).flatMap gq=(m.take i).flatMap gq++(gq y++(m.drop (i+1)).flatMap gq):=by rw[He,ax hi,ge,iD]
def qV{m:List pc}{i:Nat}(hi:i<m.length):m.flatMap gq=(m.take i).flatMap gq++(gq m[i]++(m.drop (i+1)).flatMap gq):=by have h:=xi hi m[i];rwa [List.set_getElem_self]at h
def pD{s:RS}{c:Nat}(hc:c<s.cl.length):aZ s c=s.cl[c]:=by simp[aZ,List.getD,hc]
def aa3{s:RS}{U:AW}{B c:Nat}(hB:U.get B=some (.cells (s.cl.flatMap gq)))(hc:c<s.cl.length)(j:Nat)(hj:j<26):aK (.pointer (some ⟨B,c*26+j,none⟩)) U=((gq (aZ s c))[j]?).bind λx=>some (x,U):=by
 have e:(s.cl.flatMap gq)[c*26+j]? =(gq (aZ s c))[j]? :=by rw[pD hc,qV hc,<-Cl (m:=s.cl) (i:=c) (by omega),gb (by omega),xJ,tB (by rw[dA];omega)]
 have gZ:j<(gq (aZ s c)).length:=by rw[dA];omega
 rw[cL gZ]at e|-;exact eQ hB e
def rA{s:RS}{U:AW}{B c:Nat}(hB:U.get B=some (.cells (s.cl.flatMap gq)))(hc:c<s.cl.length):
 aK (.pointer (some ⟨B,c*26,none⟩)) U=some (.af (aZ s c).id,U)/\bA 12 (.pointer (some ⟨B,c*26+2,none⟩)) U=some (z8 (aZ s c).op,U)/\bA 26 (.pointer (some ⟨B,c*26,none⟩)) U=some (clV (aZ s c),U):=by
 have e0:((s.cl.flatMap gq).drop (c*26)).take 26=gq (aZ s c):=by rw[pD hc,qV hc,<-Cl (m:=s.cl) (i:=c) (by omega),xS,<-dA s.cl[c],uH]
 refine⟨aa3 hB hc 0 (by omega),?_,?_⟩
 ·have e2:((s.cl.flatMap gq).drop (c*26+2)).take 12=((gq (aZ s c)).drop 2).take 12:=by rw[<-e0,xd,nL,uY];rfl
  have:=eh (n:=12) (o:=c*26+2) (bk hB) (by rw[e2];rfl);rw[e2]at this;exact this
 ·have:=eh (n:=26) (o:=c*26) (bk hB) (by rw[e0];rfl);rw[e0]at this;exact this
def eX(s:RS)(x:de):Int:=if x.k=1 then 0 else match s.of x.wk with
 |none=>4
 |some o=>if(aZ s o.c).id≠x.id then 4 else 0
open Classical in
def cY(v:cA)(s:RS)(x:de):Int:=
 if x.k=1 then
  (if(s.of x.wk).isSome=true then 8 else if s.cl.length=200 then 3 else if x.id≠(s.cl.length:Int)+1 then 6 else opE x.op)
 else match s.of x.wk with
  |none=>4
  |some o=>
   if x.k=5 then(if(o.s:Int)<(km v (aZ s o.c).op).1 then 6 else 0)else
   if x.k=6 then(if CC (aZ s o.c) o x.en then 0 else 6)else
   if iK v (aZ s o.c).op o.s≠((fX x.k,x.lk),0)then 6 else
   if x.k=2/\(s.lk x.lk).isSome=true then 20 else 0
def Mr(v:cA)(s:RS)(x:de):sd v s x=if dX s x≠0 then dX s x else if eX s x≠0 then eX s x else cY v s x:=by
 unfold sd eX cY;by_cases c1:x.k=1
 ·simp only[ax c1,ne_eq,ve,bR]
 ·simp only[ay c1];cases s.of x.wk with
  |none=>simp
  |some o=>
   simp only;by_cases c2:(aZ s o.c).id≠x.id
   ·simp[ax c2]
   ·simp only[ay c2,ne_eq,ve,bR]
def xx(s:RS)(x:de):RS:={s with tn:=x.tn,st:=if nE x=true then x.tn else s.st}
section
variable {V U:AW} {v:cA} {sv ev cv:ae} {s:RS} {at_:Int} {bo:Option Nat} {pb:Int->Nat} {x:de} {b b2:Nat}
def agw(h:iy V U v sv ev s at_ cv bo pb)(hI:kZ s)(hb:U.get b=some (.cells (fe x))):fY bm (cr (V.next+2)) (cr b) U=some (.af (eX s x),U):=by
 unfold fY;obtain⟨l5,l6,l7,l8,l9,l10,-⟩:=h.ld;have lk:=h.look x.wk;have lx:=pa hb;have lw:=fx hb;have li:=fw hb;unfold eX;by_cases c1:x.k=1
 ·have d1:=aS c1;simp only[SX,bf,aI,l6,lw,lk,lx,d1,wu1,ax c1]
 ·have d1:=bq c1;cases ho:s.of x.wk with
  |none=>rw[ho]at lk;simp only[Option.map_none,Option.getD_none]at lk;simp only[SX,bf,aI,l6,lw,lk,lx,d1,ami,ay c1]
  |some o=>
   rw[ho]at lk;simp only[cS,rZ]at lk;obtain⟨p1,p2,p3,p4⟩:=h.p _ _ ho;have mr:=hI.of _ _ ho;obtain⟨B,-,-,hB,Xg⟩:=h.call mr;obtain⟨f1,-,-⟩:=rA hB mr;have lp:aK (cr (pb x.wk)) U=some (.af (o.c:Int),U):=eQ p4 rfl;by_cases c2:(aZ s o.c).id=x.id
   ·have d2:=aS c2;simp only[SX,bf,aI,l6,l5,lw,lk,lx,li,d1,pEq,lp,Xg,cC,f1,ay c1,ne_eq,c2,ve,bR]
   ·have d2:=bq c2;simp only[SX,bf,aI,l6,l5,lw,lk,lx,li,d1,pEq,lp,Xg,cC,f1,ay c1,ne_eq,c2,not_false_eq_true,bh]
open Classical in
def am0(h:iy V U v sv ev s at_ cv bo pb)(hI:kZ s)(hb:U.get b=some (.cells (fe x)))(iW:U.get b2=some (.cells (fe (ij x))))(hbV:V.next+5<=b)(hk:1<=x.k/\x.k<=6):
 ∃U',cV bm (cr (V.next+2)) (cr b) (cr b2) (.bool (nE x)) U=some (.af (if dX s x≠0 then dX s x else eX s x),U')/\U'.next=U.next/\(∀d,d≠V.next+2->U'.get d=U.get d)/\(dX s x≠0->U'=U)/\(dX s x=0->iy V U' v sv ev (xx s x) at_ cv bo pb):=by
 unfold cV;obtain⟨l5,l6,l7,l8,l9,l10,-⟩:=h.ld;have lx:=mp hb;have lb:=mp iW;have lt:=sx hb;have lw:=fx hb;have ne:=λU'=>Z1 x (ij x) false false U'
 have hE:=dX.eq_1 s x;rw[b8]at hE;by_cases c1:x=ij x;case neg=>rw[ax c1]at hE;have d1:decide (x=ij x)=false:=bq c1;simp only[SX,lx,lb,ne,d1];exact⟨U,by rw[hE];rfl,rfl,λ_ _=>rfl,λ_=>rfl,λe=>by rw[hE]at e;exact absurd e (by decide)⟩
 rw[ay (by simpa using c1)]at hE;have d1:decide (x=ij x)=true:=aS c1;by_cases c2:x.tn<0\/1000000000<x.tn\/x.wk<1\/64<x.wk
 ·rw[ax c2]at hE;refine⟨U,?_,rfl,λ_ _=>rfl,λ_=>rfl,λe=>by rw[hE]at e;exact absurd e (by decide)⟩;rw[hE];by_cases e1:x.tn<0
  ·have q1:=aS e1;simp only[SX,lx,lb,ne,d1,aI,lt,q1];rfl
  have q1:=bq e1;by_cases e2:1000000000<x.tn
  ·have q2:=aS e2;simp only[SX,lx,lb,ne,d1,aI,lt,q1,q2];rfl
  have q2:=bq e2;by_cases e3:x.wk<1
  ·have q3:=aS e3;simp only[SX,lx,lb,ne,d1,aI,lt,lw,q1,q2,q3];rfl
  have q3:=bq e3;have q4:decide (64<x.wk)=true:=jr;simp only[SX,lx,lb,ne,d1,aI,lt,lw,q1,q2,q3,q4];rfl
 rw[ay c2]at hE;have q1:decide (x.tn<0)=false:=dS;have q2:decide (1000000000<x.tn)=false:=dS;have q3:decide (x.wk<1)=false:=dS;have q4:decide (64<x.wk)=false:=dS;by_cases c3:x.tn<s.tn
 ·have d3:=aS c3;rw[ax (.inl c3)]at hE;refine⟨U,?_,rfl,λ_ _=>rfl,λ_=>rfl,λe=>by rw[hE]at e;exact absurd e (by decide)⟩;rw[hE];simp only[SX,lx,lb,ne,d1,aI,lt,lw,q1,q2,q3,q4,bf,l8,d3,wu2];rfl
 have d3:=bq c3;have st8:bP 1 (.pointer (some ⟨V.next+2,8,none⟩)) (.af x.tn) U=some (ag,U.put (V.next+2) (.cells (Eo v sv ev cv V.next (V.next+1) x.tn s.st at_))):=by rw[pP,iU h.w];rfl
 have h1:=h.put x.tn s.st at_;have OP:V.next+2≠b:=by omega
 have MH:(U.put (V.next+2) (.cells (Eo v sv ev cv V.next (V.next+1) x.tn s.st at_))).get b=some (.cells (fe x)):=(AW.aE _ _ OP).trans hb;cases Hn:nE x with
 |true=>
  by_cases c4:x.tn<=s.st
  ·have d4:=aS c4;rw[ax (.inr ⟨Hn,c4⟩)]at hE;refine⟨U,?_,rfl,λ_ _=>rfl,λ_=>rfl,λe=>by rw[hE]at e;exact absurd e (by decide)⟩;rw[hE];simp only[SX,lx,lb,ne,d1,aI,lt,lw,q1,q2,q3,q4,bf,l8,l9,d3,d4];rfl
  have d4:=bq c4;rw[ay (by rintro(e|⟨-,e⟩);exact c3 e;exact c4 e)]at hE;have lt1:=sx MH;have st9:bP 1 (.pointer (some ⟨V.next+2,9,none⟩)) (.af x.tn) (U.put (V.next+2) (.cells (Eo v sv ev cv V.next (V.next+1) x.tn s.st at_)))=some (ag,(U.put (V.next+2) (.cells (Eo v sv ev cv V.next (V.next+1) x.tn s.st at_))).put (V.next+2) (.cells (Eo v sv ev cv V.next (V.next+1) x.tn x.tn at_))):=by rw[pP,iU h1.w];rfl
  have h2:=h1.put x.tn x.tn at_;have EU:=(AW.aE (W:=U.put (V.next+2) (.cells (Eo v sv ev cv V.next (V.next+1) x.tn s.st at_))) (o:=.cells (Eo v sv ev cv V.next (V.next+1) x.tn x.tn at_)) OP).trans MH;have J:=agw h2 ⟨hI.ids,hI.of,hI.len,hI.wk,hI.steps⟩ EU;obtain⟨U2,j7⟩:∃U2,U2=(U.put (V.next+2) (.cells (Eo v sv ev cv V.next (V.next+1) x.tn s.st at_))).put (V.next+2) (.cells (Eo v sv ev cv V.next (V.next+1) x.tn x.tn at_)):=⟨_,rfl⟩;rw[<-j7]at J h2 st9;refine⟨U2,?_,by rw[j7];rfl,λd hd=>by rw[j7];(try rw[AW.aE _ _ (bL hd)]);exact AW.aE _ _ (bL hd),λe=>absurd hE e,λ_=>?_⟩
  ·rw[hE];simp only[SX,lx,lb,ne,d1,aI,lt,lw,q1,q2,q3,q4,bf,l8,l9,d3,d4,st8,lt1,st9];exact J
  ·have e:xx s x={{s with tn:=x.tn,st:=s.st}with tn:=x.tn,st:=x.tn}:=by unfold xx;rw[ax Hn]
   rw[e];exact h2
 |false=>
  rw[ay (by rintro(e|⟨e,-⟩);exact c3 e;rw[Hn]at e;cases e)]at hE;have J:=agw h1 ⟨hI.ids,hI.of,hI.len,hI.wk,hI.steps⟩ MH;obtain⟨U2,j7⟩:∃U2,U2=U.put (V.next+2) (.cells (Eo v sv ev cv V.next (V.next+1) x.tn s.st at_)):=⟨_,rfl⟩;rw[<-j7]at J h1 st8;refine⟨U2,?_,by rw[j7];rfl,λd hd=>by rw[j7];exact AW.aE _ _ (bL hd),λe=>absurd hE e,λ_=>?_⟩
  ·rw[hE];simp only[SX,lx,lb,ne,d1,aI,lt,lw,q1,q2,q3,q4,bf,l8,d3,st8];exact J
  ·have e:xx s x={s with tn:=x.tn,st:=s.st}:=by unfold xx;rw[ay (by rw[Hn];decide)]
   rw[e];exact h1
end
def Ko:∀{l l':List (Int×ae×Nat)},qm l=qm l'->l=l'
 |[],[],_=>rfl
 |[],_::_,h=>by simp[qm]at h
 |_::_,[],h=>by simp[qm]at h
 |(a,b,c)::l,(a',b',c')::l',h=>by simp only[qm,jd,List.cons.injEq]at h;have h2:l=l':=Ko h.2;have h1:=h.1;simp at h1;rw[h2,h1.1,h1.2.1,h1.2.2]
def WQ{W W':AW}{r n n':Nat}{m m':Int->Option ae}(h:qP W r m n)(h':qP W' r m' n')(hg:W'.get r=W.get r)(k:Int):m k=m' k:=by obtain⟨l,c,h1,-,-,h4⟩:=h;obtain⟨l',c',k1,-,-,k4⟩:=h';rw[hg,h1]at k1;injection k1 with k1;injection k1 with k1 k2;have:=Ko k1;subst this;rw[<-h4,<-k4]
def XN{a b:Nat}(h:cr a=cr b):a=b:=by injection h with h;injection h with h;injection h
section
variable {V U U':AW} {v:cA} {sv ev cv lN:ae} {s s':RS} {at_ ac3:Int} {bo bo':Option Nat} {pb Lg:Int->Nat} {x:de} {b b2:Nat}
def iy.back(h:iy V U v sv ev s at_ cv bo pb)(h':iy V U' v sv ev s' ac3 lN bo' Lg)(a8:Le U U'):iy V U v sv ev s' ac3 lN bo' Lg:=by
 have hn:=h.nx;have gw:=a8.get (V.next+2) (by omega);have hw:U.get (V.next+2)=some (.cells (Eo v sv ev lN V.next (V.next+1) s'.tn s'.st ac3)):=gw.symm.trans h'.w;have ecv:cv=lN:=by have e:=h.w.symm.trans hw;injection e with e;injection e with e;simp only[List.cons.injEq]at e;exact e.2.2.2.2.2.1
 subst ecv;obtain⟨n',im⟩:=h'.o;obtain⟨m',It⟩:=h'.l;obtain⟨n,ho⟩:=h.o;have hpb:∀k o,s'.of k=some o->∃o0,s.of k=some o0/\pb k=Lg k:=λk o hk=>by
  have:=WQ ho im (a8.get _ (by omega)) k;simp only[hk,cS]at this;cases e:s.of k with
  |none=>rw[e]at this;cases this
  |some o0=>rw[e]at this;simp only[cS,gJ]at this;exact⟨o0,rfl,XN this⟩
 refine⟨h.le,hn,hw,h.r,?_,⟨n',im.dq (a8.get _ (by omega)).symm⟩,⟨m',It.dq (a8.get _ (by omega)).symm⟩,λk o hk=>?_,h'.b,h'.inj⟩
 ·rcases h'.c with hc|⟨h0,B,h1,h2,h3,h4⟩
  ·exact .inl hc
  ·have hB:B<U.next:=by
    rcases h.c with⟨-,e,-⟩|⟨-,B0,-,k2,k3,-⟩
    ·rw[h3]at e;cases e
    ·rw[h3]at k3;injection k3 with k3;injection k3 with k3;injection k3 with k3;omega
   exact .inr ⟨h0,B,h1,hB,h3,(a8.get B hB).symm.trans h4⟩
 ·obtain⟨o0,e1,e2⟩:=hpb k o hk;obtain⟨a,b,c,d⟩:=h'.p k o hk;have gZ:=(h.p k o0 e1).2.1;rw[e2]at gZ;exact⟨a,gZ,c,(a8.get _ gZ).symm.trans d⟩
def AM(s:RS)(x:de):Int:=if dX s x≠0 then dX s x else eX s x
def Dr(h:iy V U v sv ev s at_ cv bo pb)(hI:kZ s)(hU:Le U U')(hb:U'.get b=some (.cells (fe x)))(iW:U'.get b2=some (.cells (fe (ij x))))(hbU:U.next<=b)(hk:1<=x.k/\x.k<=6):
 Ok (cV bm (cr (V.next+2)) (cr b) (cr b2) (.bool (nE x)) U') λr=>r.1=.af (AM s x)/\Le V r.2/\U.next<=r.2.next/\(∀d,d<U.next->d≠V.next+2->r.2.get d=U.get d)/\(dX s x≠0->Le U r.2)/\(dX s x=0->iy V r.2 v sv ev (xx s x) at_ cv bo pb):=by
 have h1:=h.mono hU;obtain⟨U2,k1,k2,k5,k3,k4⟩:=am0 h1 hI hb iW (by have:=h.nx;omega) hk;rw[k1];refine am.2 ⟨rfl,?_,by have:=hU.next;show U.next<=U2.next;omega,λd h1 h2=>(k5 d h2).trans (hU.get d h1),λe=>by rw[k3 e];exact hU,k4⟩;by_cases c:dX s x=0
 ·exact(k4 c).le
 ·rw[k3 c];exact h1.le
def anH{W:AW}{b:Nat}{e:de}(h:W.get b=some (.cells (fe e)))(o:qS):bP 12 (.pointer (some ⟨b,5,none⟩)) (z8 o) W=some (ag,W.put b (.cells (fe {e with op:=o}))):=by rw[tO (n:=12) (o:=5) (v:=z8 o) h rfl (by show 5+12<=31;omega) rfl];rfl
def st9{W:AW}{b:Nat}{e:de}(h:W.get b=some (.cells (fe e)))(r:In):bP 9 (.pointer (some ⟨b,17,none⟩)) (IR r) W=some (ag,W.put b (.cells (fe {e with rp:=r}))):=by rw[tO (n:=9) (o:=17) (v:=IR r) h rfl (by show 17+9<=31;omega) rfl];rfl
def st5{W:AW}{b:Nat}{e:de}(h:W.get b=some (.cells (fe e)))(g:EE):bP 5 (.pointer (some ⟨b,26,none⟩)) (Lv g) W=some (ag,W.put b (.cells (fe {e with en:=g}))):=by rw[tO (n:=5) (o:=26) (v:=Lv g) h rfl (by show 26+5<=31;omega) rfl];rfl
def afp{W:AW}{b:Nat}{e:de}(h:W.get b=some (.cells (fe e)))(n:Int):bP 1 (.pointer (some ⟨b,4,none⟩)) (.af n) W=some (ag,W.put b (.cells (fe {e with lk:=n}))):=by rw[pP,iU h];rfl
def Ni(h:iy V U v sv ev s at_ cv bo pb)(hI:kZ s)(x:de):
 ∃U',bm (.func (.func 35) #[] #[]) [cr (V.next+2),AT x] U=some (.af (AM s x),U')/\Le V U'/\U.next<=U'.next/\(∀d,d<U.next->d≠V.next+2->U'.get d=U.get d)/\(dX s x=0->iy V U' v sv ev (xx s x) at_ cv bo pb):=by
 have oK:Ok (kz bm (cr (V.next+2)) (AT x) U) λr=>r.1=.af (AM s x)/\Le V r.2/\U.next<=r.2.next/\(∀d,d<U.next->d≠V.next+2->r.2.get d=U.get d)/\(dX s x≠0->Le U r.2)/\(dX s x=0->iy V r.2 v sv ev (xx s x) at_ cv bo pb):=by
  unfold kz;obtain⟨U1,jO⟩:∃U1,U1=U.add (.cells (fe x)):=⟨_,rfl⟩;have l1:Le U U1:=by rw[jO];exact(Le.refl _).add _
  have n1:U1.next=U.next+1:=by rw[jO];rfl
  have hb:U1.get U.next=some (.cells (fe x)):=by rw[jO];exact AW.aT _ _
  have bx:=vP x U;rw[<-jO]at bx;have lk:=pa hb;have hE:=dX.eq_1 s x;have hC:AM s x=if dX s x≠0 then dX s x else eX s x:=rfl
  by_cases c1:x.k<1
  ·have d1:=aS c1;rw[ax (.inl c1)]at hE;simp only[SX,bx,lk,d1,am];refine⟨by rw[hC,hE];rfl,h.le.trans l1,by omega,λd hd _=>l1.get d hd,λ_=>l1,λe=>by rw[hE]at e;exact absurd e (by decide)⟩
  have d1:=bq c1;by_cases c2:6<x.k
  ·have d2:=aS c2;rw[ax (.inr c2)]at hE;simp only[SX,bx,lk,d1,d2,am];refine⟨by rw[hC,hE];rfl,h.le.trans l1,by omega,λd hd _=>l1.get d hd,λ_=>l1,λe=>by rw[hE]at e;exact absurd e (by decide)⟩
  have d2:=bq c2;have hk:1<=x.k/\x.k<=6:=by omega
  obtain⟨U2,j7⟩:∃U2,U2=U1.add (.cells (fe ⟨x.k,x.tn,x.wk,x.id,0,Ht,wO,Ex⟩)):=⟨_,rfl⟩;have l2:Le U1 U2:=by rw[j7];exact(Le.refl _).add _
  have iW:U2.get U1.next=some (.cells (fe ⟨x.k,x.tn,x.wk,x.id,0,Ht,wO,Ex⟩)):=by rw[j7];exact AW.aT _ _
  have pt:=NO ⟨x.k,x.tn,x.wk,x.id,0,Ht,wO,Ex⟩ U1;rw[<-j7]at pt;have Ib:U2.get U.next=some (.cells (fe x)):=(l2.get _ (by omega)).trans hb;have ju:=l1.trans l2;have Yw:∀c,Le U (U2.put U1.next c):=λc=>ju.put (by omega) _
  have EU:∀c,(U2.put U1.next c).get U.next=some (.cells (fe x)):=λc=>(AW.aE _ _ (by omega)).trans Ib
  have lo:=tx Ib;have lr:=yU Ib;have lg:=DV Ib;have ll:=qy Ib;have lk2:=pa Ib;simp only[SX,bx,lk,d1,d2,aI,sx hb,fx hb,fw hb,abV,Yg,pt,lk2];by_cases e1:x.k=1
  ·have q:=aS e1;have eb:fe (ij x)=fe {(⟨x.k,x.tn,x.wk,x.id,0,Ht,wO,Ex⟩:de)with op:=x.op}:=by unfold ij;simp[e1]
   have eo:nE x=false:=by unfold nE;simp[e1]
   have G:=Dr (b2:=U1.next) h hI (Yw _) (EU (.cells (fe {(⟨x.k,x.tn,x.wk,x.id,0,Ht,wO,Ex⟩:de)with op:=x.op}))) (by rw[eb];exact AW.bz _ _ _) (aP _) hk;rw[eo]at G;simp only[SX,q,lo,anH iW];exact G
  have q1:=bq e1;by_cases e3:x.k=3
  ·have q:=aS e3;have eb:fe (ij x)=fe {(⟨x.k,x.tn,x.wk,x.id,0,Ht,wO,Ex⟩:de)with rp:=x.rp}:=by unfold ij;simp[e3]
   have eo:nE x=true:=by unfold nE;simp[e3]
   have G:=Dr (b2:=U1.next) h hI (Yw _) (EU (.cells (fe {(⟨x.k,x.tn,x.wk,x.id,0,Ht,wO,Ex⟩:de)with rp:=x.rp}))) (by rw[eb];exact AW.bz _ _ _) (aP _) hk;rw[eo]at G;simp only[SX,q1,q,lr,st9 iW];exact G
  have q3:=bq e3;by_cases e24:x.k=2\/x.k=4
  ·have eb:fe (ij x)=fe {(⟨x.k,x.tn,x.wk,x.id,0,Ht,wO,Ex⟩:de)with lk:=x.lk}:=by unfold ij;rw[ax e24,ay e1,ay e3,b8]
   have eo:nE x=true:=by unfold nE;rcases e24 with e|e<;>simp[e]
   have G:=Dr (b2:=U1.next) h hI (Yw _) (EU (.cells (fe {(⟨x.k,x.tn,x.wk,x.id,0,Ht,wO,Ex⟩:de)with lk:=x.lk}))) (by rw[eb];exact AW.bz _ _ _) (aP _) hk;rw[eo]at G;rcases e24 with e|e
   ·have q:=aS e;simp only[SX,q1,q3,q];unfold eR;simp only[SX,aI,ll,afp iW];exact G
   ·have q:=aS e;have q2:decide (x.k=2)=false:=dS;simp only[SX,q1,q3,q2,q];unfold eR;simp only[SX,aI,ll,afp iW];exact G
  have q2:decide (x.k=2)=false:=dS;have q4:decide (x.k=4)=false:=dS;have eo:nE x=false:=by unfold nE;simp;omega
  simp only[SX,q1,q3,q2,q4];unfold eR;by_cases e6:x.k=6
  ·have q:=aS e6;have eb:fe (ij x)=fe {(⟨x.k,x.tn,x.wk,x.id,0,Ht,wO,Ex⟩:de)with en:=x.en}:=by unfold ij;simp[e6]
   have G:=Dr (b2:=U1.next) h hI (Yw _) (EU (.cells (fe {(⟨x.k,x.tn,x.wk,x.id,0,Ht,wO,Ex⟩:de)with en:=x.en}))) (by rw[eb];exact AW.bz _ _ _) (aP _) hk;rw[eo]at G;simp only[SX,q,aI,lg,st5 iW];exact G
  ·have q:=bq e6;have e5:x.k=5:=by omega
   have eb:fe (ij x)=fe (⟨x.k,x.tn,x.wk,x.id,0,Ht,wO,Ex⟩:de):=by unfold ij;simp[e5]
   have G:=Dr (b2:=U1.next) h hI ju Ib (by rw[eb];exact iW) (aP _) hk;rw[eo]at G;simp only[SX,q];exact G
 obtain⟨q,W',h1,rfl,h2,h5,h6,h3,h4⟩:=qN (Q:=λq W'=>q=.af (AM s x)/\Le V W'/\U.next<=W'.next/\(∀d,d<U.next->d≠V.next+2->W'.get d=U.get d)/\(dX s x≠0->Le U W')/\(dX s x=0->iy V W' v sv ev (xx s x) at_ cv bo pb)) oK uB
  (λq W' ⟨e,a,_,_,b,c⟩ a8 hp=>⟨e,h.le,aP _,λ_ _ _=>rfl,λ_=>.refl _,λhe=>h.back (c he) a8⟩)
 exact⟨W',h1,h2,h5,h6,h4⟩
end
def RS.Tn(s:RS)(w:Int)(o:ei):RS:={s with of:=λk=>if k=w then some o else s.of k}
def ns(o:ei):ei:=⟨o.c,o.s+1,o.e⟩
section
variable {Z V U U':AW} {v:cA} {sv ev cv:ae} {s:RS} {at_:Int} {bo:Option Nat} {pb:Int->Nat} {x:de} {o:ei}
def iy.ahi(h:iy V U v sv ev s at_ cv bo pb){k:Int}(ho:s.of k=some o)(o':ei):iy V (U.put (pb k) (.cells [.af (o'.c:Int),.af (o'.s:Int),.bool o'.e])) v sv ev (s.Tn k o') at_ cv bo pb:=by
 have hn:=h.nx;obtain⟨n,hm⟩:=h.o;obtain⟨m,hl⟩:=h.l;obtain⟨p1,p2,p3,p4⟩:=h.p _ _ ho;have em:(λw=>((s.Tn k o').of w).map λ_=>cr (pb w))=λw=>(s.of w).map λ_=>cr (pb w):=by
  funext w;unfold RS.Tn;simp only;split
  ·rename_i e;subst e;rw[ho];rfl
  ·rfl
 refine⟨h.le.put (by omega) _,by rw[AW.cT];omega,(AW.aE _ _ (by omega)).trans h.w,(AW.aE _ _ (by omega)).trans h.r,h.c.dq (aP _) λB hB=>AW.aE _ _ (λe=>p3 (by rw[hB,e])),⟨n,by rw[em];exact hm.dq (AW.aE _ _ (by omega))⟩,⟨m,hl.dq (AW.aE _ _ (by omega))⟩,λw q hq=>?_,h.b,λw w' q q' hq hq'=>?_⟩
 ·unfold RS.Tn at hq;simp only at hq;split at hq
  ·rename_i e;subst e;injection hq with hq;subst hq;exact⟨p1,p2,p3,AW.bz _ _ _⟩
  ·rename_i e;obtain⟨a,b,c,d⟩:=h.p _ _ hq;exact⟨a,b,c,(AW.aE _ _ (λe2=>e (h.inj _ _ _ _ hq ho e2.symm))).trans d⟩
 ·have key:∀{w q},(s.Tn k o').of w=some q->∃q0,s.of w=some q0:=λ{w q} hq=>by
   unfold RS.Tn at hq;simp only at hq;split at hq
   ·rename_i e;subst e;exact⟨_,ho⟩
   ·exact⟨_,hq⟩
  obtain⟨q0,h1⟩:=key hq;obtain⟨q1,h2⟩:=key hq';exact h.inj _ _ _ _ h1 h2
def aiq(W:AW):aY Tryz.prog 135 W=some (cr W.next,W.add (.cells [.af 0,.af 0])):=aJ (by kernel_rfl) rfl
open Classical in
def LV(hG:GW V)(h:iy V U v sv ev s at_ cv bo pb)(hI:kZ s)(ho:s.of x.wk=some o)(hs:fJ V sv v.az)(hv:v.az.length<1000)(kd:Int):
 ∃U',bm (.func (.func 76) #[] #[]) [cr (V.next+2),AT x,.af kd] U=some (.af (if iK v (aZ s o.c).op o.s=((kd,x.lk),0)then 0 else 6),U')/\Le V U'/\U.next<=U'.next/\(∀d,d<U.next->d≠pb x.wk->U'.get d=U.get d)/\(iK v (aZ s o.c).op o.s=((kd,x.lk),0)->iy V U' v sv ev (s.Tn x.wk (ns o)) at_ cv bo pb):=by
 have oK:Ok (jl bm (cr (V.next+2)) (AT x) (.af kd) U) λr=>r.1=.af (if iK v (aZ s o.c).op o.s=((kd,x.lk),0)then 0 else 6)/\Le V r.2/\U.next<=r.2.next/\(∀d,d<U.next->d≠pb x.wk->r.2.get d=U.get d)/\(iK v (aZ s o.c).op o.s=((kd,x.lk),0)->iy V r.2 v sv ev (s.Tn x.wk (ns o)) at_ cv bo pb):=by
  unfold jl;obtain⟨U1,jO⟩:∃U1,U1=U.add (.cells (fe x)):=⟨_,rfl⟩;have l1:Le U U1:=by rw[jO];exact(Le.refl _).add _
  have n1:U1.next=U.next+1:=by rw[jO];rfl
  have hb:U1.get U.next=some (.cells (fe x)):=by rw[jO];exact AW.aT _ _
  have bx:=vP x U;rw[<-jO]at bx;have h1:=h.mono l1;obtain⟨l5,l6,l7,l8,l9,l10,lv⟩:=h1.ld;have lk:=h1.look x.wk;rw[ho]at lk;simp only[cS,rZ]at lk;obtain⟨p1,p2,p3,p4⟩:=h1.p _ _ ho;have mr:=hI.of _ _ ho;have Ss:=hI.steps _ _ ho;obtain⟨B,-,-,hB,Xg⟩:=h1.call mr;obtain⟨-,f2,-⟩:=rA hB mr;have lp0:aK (cr (pb x.wk)) U1=some (.af (o.c:Int),U1):=eQ p4 rfl;have lp1:aK (.pointer (some ⟨pb x.wk,1,none⟩)) U1=some (.af (o.s:Int),U1):=eQ p4 rfl;obtain⟨U2,j7⟩:∃U2,U2=U1.add (.cells [.af 0,.af 0]):=⟨_,rfl⟩;have l2:Le U1 U2:=by rw[j7];exact(Le.refl _).add _
  have n2:U2.next=U1.next+1:=by rw[j7];rfl
  have al:=aiq U1;rw[<-j7]at al;have ju:=l1.trans l2;have nS:=KM (o:=(aZ s o.c).op) (i0:=(o.s:Int)) (hs.mono (h.le.trans ju)) hv (hG.mono (h.le.trans ju));generalize hq:iK v (aZ s o.c).op (o.s:Int)=q at nS|-;obtain⟨⟨qa,qb⟩,qe⟩:=q;obtain⟨U3,ED⟩:∃U3,U3=U2.put U1.next (.cells [.af qa,.af qb]):=⟨_,rfl⟩;have s2:bP 2 (cr U1.next) (.agg #[.af qa,.af qb]) U2=some (ag,U3):=by rw[ED];have:=ov (n:=2) (vs:=#[.af qa,.af qb]) (W:=U2) (b:=U1.next) (cs:=[.af 0,.af 0]) (by rw[j7];exact AW.aT _ _) rfl rfl rfl;exact this
  have l3:Le U U3:=by rw[ED];exact ju.put (by omega) _
  have n3:U3.next=U2.next:=by rw[ED];rfl
  have h3:=h.mono l3;have agK:bA 2 (cr U1.next) U3=some (.agg #[.af qa,.af qb],U3):=by
   have g:U3.get U1.next=some (.cells [.af qa,.af qb]):=by rw[ED];exact AW.bz _ _ _
   exact eh (bk g) rfl
  have EU:U3.get U.next=some (.cells (fe x)):=by rw[ED];exact(AW.aE _ _ (by omega)).trans ((l2.get _ (by omega)).trans hb)
  have llk:=qy EU;have ne:=λW=>FG qa qb kd x.lk false false W
  simp only[SX,bx,bf,aI,l6,fx hb,lk,lv,l5,lp0,Xg,f2,lp1,al,nS,s2];by_cases c1:qe=0;case neg=>
   have d:=bq c1;have:¬(((qa,qb),qe):(Int×Int)×Int)=((kd,x.lk),0):=λe=>c1 (by injection e)
   simp only[SX,d,ay this,am];exact⟨aA,h3.le,by omega,λd hd _=>l3.get d hd,λe=>absurd e this⟩
  have d:=aS c1;subst c1;by_cases c2:qa=kd/\qb=x.lk;case neg=>
   have:¬(((qa,qb),(0:Int)):(Int×Int)×Int)=((kd,x.lk),0):=λe=>c2 (by simp only[pA]at e;exact e.1)
   have eb:(qa==kd&&qb==x.lk)=false:=by rw[Bool.eq_false_iff];intro e;simp at e;exact c2 e
   simp only[SX,agK,llk,Lj,ne,eb,ay this,am];exact⟨aA,h3.le,by omega,λd hd _=>l3.get d hd,λe=>absurd e this⟩
  obtain⟨rfl,rfl⟩:=c2;have eb:(qa==qa&&x.lk==x.lk)=true:=by simp
  obtain⟨r1,r2,r3,r4⟩:=h3.p _ _ ho;have lp3:aK (.pointer (some ⟨pb x.wk,1,none⟩)) U3=some (.af (o.s:Int),U3):=eQ r4 rfl;have ad:=λW'=>cQ W' (o.s:Int) 1
  have e1:(o.s:Int)+1=((o.s+1:Nat):Int):=by omega
  have s3:bP 1 (.pointer (some ⟨pb x.wk,1,none⟩)) (.af ((o.s+1:Nat):Int)) U3=some (ag,U3.put (pb x.wk) (.cells [.af ((ns o).c:Int),.af ((ns o).s:Int),.bool (ns o).e])):=by rw[pP,iU r4];rfl
  have h4:=h3.ahi ho (ns o);rw[e1]at ad;simp only[SX,agK,llk,Lj,ne,eb,lp3,ad,s3,bh,am];exact⟨aA,h4.le,by rw[AW.cT];omega,λd hd fk=>(AW.aE _ _ (bL fk)).trans (l3.get d hd),λ_=>h4⟩
 obtain⟨q,W',h1,rfl,h2,h3,h5,h4⟩:=qN (Q:=λq W'=>q=.af (if iK v (aZ s o.c).op o.s=((kd,x.lk),0)then 0 else 6)/\Le V W'/\U.next<=W'.next/\(∀d,d<U.next->d≠pb x.wk->W'.get d=U.get d)/\(iK v (aZ s o.c).op o.s=((kd,x.lk),0)->iy V W' v sv ev (s.Tn x.wk (ns o)) at_ cv bo pb)) oK sK
  (λq W' ⟨e,a,a',_,b⟩ a8 hp=>⟨e,h.le,aP _,λ_ _ _=>rfl,λhe=>h.back (b he) a8⟩)
 exact⟨W',h1,h2,h3,h5,h4⟩
end
def BO{l:List pc}{c:Nat}(hc:c<l.length)(f:pc->pc):ql l c f=l.set c (f l[c]):=by unfold ql;rw[cL hc]
section
variable {Z V U U':AW} {v:cA} {sv ev cv:ae} {s:RS} {at_:Int} {bo:Option Nat} {pb:Int->Nat} {x:de} {o:ei}
def iy.agl(h:iy V U v sv ev s at_ cv bo pb){es:eF}{lk:Int->Option Int}(hm:∃n,qP (U.put (V.next+1) es) (V.next+1) (λk=>(lk k).map (Value.int .i64)) n):iy V (U.put (V.next+1) es) v sv ev {s with lk:=lk} at_ cv bo pb:=by
 have hn:=h.nx;obtain⟨n,ho⟩:=h.o
 exact⟨h.le.put (by omega) _,by rw[AW.cT];omega,(AW.aE _ _ (by omega)).trans h.w,(AW.aE _ _ (by omega)).trans h.r,h.c.dq (aP _) λB hB=>AW.aE _ _ (by have:=h.b B hB;omega),⟨n,ho.dq (AW.aE _ _ (by omega))⟩,hm,
  λk q hk=>let⟨a,b,c,d⟩:=h.p k q hk;⟨a,b,c,(AW.aE _ _ (by omega)).trans d⟩,h.b,h.inj⟩
def iy.jg(h:iy V U v sv ev s at_ cv bo pb)(k id:Int):∃U',iJ Tryz.prog 92 (.map (some (V.next+1))) (.af k) (.af id) U=some (ag,U')/\U'.next=U.next/\iy V U' v sv ev {s with lk:=λj=>if j=k then some id else s.lk j} at_ cv bo pb:=by
 obtain⟨m,hl⟩:=h.l;obtain⟨es,c,h1,h2⟩:=Kr hl adr Tryz.underlying3 k (.af id);have e:(λj=>(if j=k then some id else s.lk j).map (Value.int .i64))=λj=>if j=k then some (Value.int .i64 id)else(s.lk j).map (Value.int .i64):=by funext j;split<;>rfl
 exact⟨_,h1,rfl,h.agl ⟨_,by rw[e];exact h2⟩⟩
def iy.aeW(h:iy V U v sv ev s at_ cv bo pb)(k:Int):∃U',aB Tryz.prog .delete #[92,3] 0 #[false,false] [.map (some (V.next+1)),.af k] U=some (.tuple #[],U')/\U'.next=U.next/\iy V U' v sv ev {s with lk:=λj=>if j=k then none else s.lk j} at_ cv bo pb/\∀d,d≠V.next+1->U'.get d=U.get d:=by
 obtain⟨m,hl⟩:=h.l;obtain⟨es,c,h1,h2⟩:=I2 hl adr Tryz.underlying3 [3] k;have e:(λj=>(if j=k then none else s.lk j).map (Value.int .i64))=λj=>if j=k then none else(s.lk j).map (Value.int .i64):=by funext j;split<;>rfl
 refine⟨U.put (V.next+1) (.map es c),?_,rfl,h.agl ⟨_,by rw[e];exact h2⟩,λd hd=>AW.aE _ _ (bL hd)⟩;show(nD Tryz.prog U #[92,3] (.map (some (V.next+1))) (.af k)).map _=_;have:(#[92,3]:Array ai)=(92::[3]).toArray:=rfl;rw[this,h1];rfl
def iy.ai4(h:iy V U v sv ev s at_ cv bo pb){es:eF}{of:Int->Option ei}{Lg:Int->Nat}(hm:∃n,qP (U.put V.next es) V.next (λk=>(of k).map λ_=>cr (Lg k)) n)
 (hp:∀k o,of k=some o->V.next+5<=Lg k/\Lg k<U.next/\bo≠some (Lg k)/\U.get (Lg k)=some (.cells [.af (o.c:Int),.af (o.s:Int),.bool o.e]))
 (hi:∀k k' o o',of k=some o->of k'=some o'->Lg k=Lg k'->k=k'):iy V (U.put V.next es) v sv ev {s with of:=of} at_ cv bo Lg:=by
 have hn:=h.nx;obtain⟨n,hl⟩:=h.l
 exact⟨h.le.put (by omega) _,by rw[AW.cT];omega,(AW.aE _ _ (by omega)).trans h.w,(AW.aE _ _ (by omega)).trans h.r,h.c.dq (aP _) λB hB=>AW.aE _ _ (by have:=h.b B hB;omega),hm,⟨n,hl.dq (AW.aE _ _ (by omega))⟩,
  λk q hk=>let⟨a,b,c,d⟩:=hp k q hk;⟨a,b,c,(AW.aE _ _ (by omega)).trans d⟩,h.b,hi⟩
def iy.amu(h:iy V U v sv ev s at_ cv bo pb)(k:Int):∃U',aB Tryz.prog .delete #[91,3] 0 #[false,false] [.map (some V.next),.af k] U=some (.tuple #[],U')/\U'.next=U.next/\iy V U' v sv ev {s with of:=λj=>if j=k then none else s.of j} at_ cv bo pb:=by
 obtain⟨m,hl⟩:=h.o;obtain⟨es,c,h1,h2⟩:=I2 hl aaC Tryz.underlying3 [3] k;have e:(λj=>(if j=k then none else s.of j).map λ_=>cr (pb j))=λj=>if j=k then none else(s.of j).map λ_=>cr (pb j):=by funext j;split<;>rfl
 refine⟨U.put V.next (.map es c),?_,rfl,h.ai4 ⟨_,by rw[e];exact h2⟩ (λj q hq=>?_) (λj j' q q' hq hq'=>?_)⟩
 ·show(nD Tryz.prog U #[91,3] (.map (some V.next)) (.af k)).map _=_;have:(#[91,3]:Array ai)=(91::[3]).toArray:=rfl;rw[this,h1];rfl
 ·split at hq
  ·cases hq
  ·exact h.p _ _ hq
 ·split at hq
  ·cases hq
  split at hq'
  ·cases hq'
  exact h.inj _ _ _ _ hq hq'
def iy.air(h:iy V U v sv ev s at_ cv bo pb)(k:Int)(q:ei){B:Nat}(hB:B<U.next)(YV:V.next+5<=B)(hg:U.get B=some (.cells [.af (q.c:Int),.af (q.s:Int),.bool q.e]))(hbo:bo≠some B)(mT:∀j o,s.of j=some o->pb j≠B):
 ∃U',iJ Tryz.prog 91 (.map (some V.next)) (.af k) (cr B) U=some (ag,U')/\U'.next=U.next/\iy V U' v sv ev (s.Tn k q) at_ cv bo (λj=>if j=k then B else pb j)/\∀d,d≠V.next->U'.get d=U.get d:=by
 obtain⟨m,hl⟩:=h.o;obtain⟨es,c,h1,h2⟩:=Kr hl aaC Tryz.underlying3 k (cr B);have e:(λj=>((if j=k then some q else s.of j):Option ei).map λ_=>cr (if j=k then B else pb j))=λj=>if j=k then some (cr B)else(s.of j).map λ_=>cr (pb j):=by funext j;split<;>rfl
 refine⟨_,h1,rfl,h.ai4 ⟨_,by rw[e];exact h2⟩ (λj r hr=>?_) (λj j' r r' hr hr' he=>?_),λd hd=>AW.aE _ _ (bL hd)⟩
 ·by_cases e:j=k
  ·rw[ax e]at hr|-;injection hr with hr;subst hr;exact⟨YV,hB,hbo,hg⟩
  ·rw[ay e]at hr|-;exact h.p _ _ hr
 ·by_cases e:j=k
  ·by_cases e':j'=k
   ·rw[e,e']
   ·rw[ax e,ay e']at he;rw[ay e']at hr';exact absurd he.symm (mT _ _ hr')
  ·by_cases e':j'=k
   ·rw[ay e,ax e']at he;rw[ay e]at hr;exact absurd he (mT _ _ hr)
   ·rw[ay e,ay e']at he;rw[ay e]at hr;rw[ay e']at hr';exact h.inj _ _ _ _ hr hr' he
def iy.Tt(h:iy V U v sv ev s at_ cv bo pb){c B:Nat}(hc:c<s.cl.length)(hB:bo=some B)(y:pc):iy V (U.put B (.cells ((s.cl.set c y).flatMap gq))) v sv ev {s with cl:=s.cl.set c y} at_ cv bo pb:=by
 have hn:=h.nx;have hb:=h.b B hB;obtain⟨n,ho⟩:=h.o;obtain⟨m,hl⟩:=h.l;refine⟨h.le.put (by omega) _,by rw[AW.cT];omega,(AW.aE _ _ (by omega)).trans h.w,(AW.aE _ _ (by omega)).trans h.r,?_,⟨n,ho.dq (AW.aE _ _ (by omega))⟩,⟨m,hl.dq (AW.aE _ _ (by omega))⟩,λk q hk=>?_,h.b,h.inj⟩
 ·rcases h.c with⟨e,-⟩|⟨h0,B',h1,h2,h3,h4⟩
  ·rw[e]at hc;cases hc
  ·rw[hB]at h1;injection h1 with h1;subst h1;exact .inr ⟨λe=>(by have:=cR List.length e;rw[kp]at this;rw[this]at hc;simp at hc),B,hB,h2,by rw[kp];exact h3,AW.bz _ _ _⟩
 ·obtain⟨a,b,c',d⟩:=h.p k q hk;exact⟨a,b,c',(AW.aE _ _ (λe=>c' (by rw[hB,e]))).trans d⟩
end
section
variable {U:AW} {m:List pc} {B c:Nat}
def ux(pre mid post vs:List ae)(p:Nat)(h:p+vs.length<=mid.length):gI (pre++(mid++post)) (pre.length+p) vs=pre++(gI mid p vs++post):=by unfold gI;rw[List.take_length_add_append,List.take_append_of_le_length (by omega),nh,List.drop_length_add_append,List.drop_append_of_le_length h];simp only[jQ]
def aa9(e:pc)(n:Int):gI (gq e) 24 [.af n]=gq {e with co:=n}:=rfl
def adE(e:pc)(n:Int):gI (gq e) 25 [.af n]=gq {e with an:=n}:=rfl
def abo(e:pc)(r:In):gI (gq e) 14 (IR r).cells.toList=gq {e with rp:=r}:=rfl
def OH(hB:U.get B=some (.cells (m.flatMap gq)))(hc:c<m.length)(n:Int):bP 1 (.pointer (some ⟨B,c*26+24,none⟩)) (.af n) U=some (ag,U.put B (.cells ((m.set c {m[c]with co:=n}).flatMap gq))):=by have hl:=Cl (m:=m) (i:=c) (by omega);rw[qV hc]at hB;rw[tO (n:=1) (v:=.af n) hB rfl (by rw[cK,cK,hl,dA];show c*26+24+1<=_;omega) rfl];have:=ux ((m.take c).flatMap gq) (gq m[c]) ((m.drop (c+1)).flatMap gq) [.af n] 24 (by rw[dA];show 24+1<=26;omega);rw[hl,aa9]at this;rw[xi hc];exact cR (λc=>some (ag,U.put B (.cells c))) this
def Pd(hB:U.get B=some (.cells (m.flatMap gq)))(hc:c<m.length)(n:Int):bP 1 (.pointer (some ⟨B,c*26+25,none⟩)) (.af n) U=some (ag,U.put B (.cells ((m.set c {m[c]with an:=n}).flatMap gq))):=by have hl:=Cl (m:=m) (i:=c) (by omega);rw[qV hc]at hB;rw[tO (n:=1) (v:=.af n) hB rfl (by rw[cK,cK,hl,dA];show c*26+25+1<=_;omega) rfl];have:=ux ((m.take c).flatMap gq) (gq m[c]) ((m.drop (c+1)).flatMap gq) [.af n] 25 (by rw[dA];show 25+1<=26;omega);rw[hl,adE]at this;rw[xi hc];exact cR (λc=>some (ag,U.put B (.cells c))) this
def OI(hB:U.get B=some (.cells (m.flatMap gq)))(hc:c<m.length)(r:In):bP 9 (.pointer (some ⟨B,c*26+14,none⟩)) (IR r) U=some (ag,U.put B (.cells ((m.set c {m[c]with rp:=r}).flatMap gq))):=by have hl:=Cl (m:=m) (i:=c) (by omega);rw[qV hc]at hB;rw[tO (n:=9) (v:=IR r) hB rfl (by rw[cK,cK,hl,dA];show c*26+14+9<=_;omega) rfl];have:=ux ((m.take c).flatMap gq) (gq m[c]) ((m.drop (c+1)).flatMap gq) (IR r).cells.toList 14 (by rw[dA];show 14+9<=26;omega);rw[hl,abo]at this;rw[xi hc];exact cR (λc=>some (ag,U.put B (.cells c))) this
end
def rN(s:RS)(i:Nat)(x:de):RS:=
 if x.k=1 then{s with cl:=s.cl++[⟨x.id,x.wk,x.op,wO,i,-1,-1⟩],of:=λw=>if w=x.wk then some ⟨s.cl.length,0,false⟩else s.of w}
 else match s.of x.wk with
  |none=>s
  |some o=>
   if x.k=5 then{s with cl:=ql s.cl o.c λc=>{c with an:=i},of:=λw=>if w=x.wk then none else s.of w}else
   if x.k=6 then{s with of:=λw=>if w=x.wk then some ⟨o.c,o.s,true⟩else s.of w}else
   {s with cl:=if x.k=3 then ql s.cl o.c λc=>{c with co:=i,rp:=x.rp}else s.cl,of:=λw=>if w=x.wk then some ⟨o.c,o.s+1,o.e⟩else s.of w,lk:=λk=>if k=x.lk then(if x.k=2 then some x.id else if x.k=4 then none else s.lk k)else s.lk k}
def Uf{s:RS}{x:de}(h:eX s x=0)(i:Nat):H9 s i x=rN (xx s x) i x:=by
 unfold H9 rN xx;by_cases c1:x.k=1
 ·simp only[ax c1]
 ·simp only[ay c1];unfold eX at h;rw[ay c1]at h;cases ho:s.of x.wk with
  |none=>rw[ho]at h;exact absurd (show(4:Int)=0 from h) (by decide)
  |some o=>simp only
def S7(v:cA)(s:RS)(x:de):cY v (xx s x) x=cY v s x:=rfl
def s8(V U U':AW)(v:cA)(sv ev:ae)(s:RS)(i:Nat)(x:de):Prop:=
 Le V U'/\U.next<=U'.next/\(cY v s x=0->∃cv bo pb,iy V U' v sv ev (rN s i x) i cv bo pb)
section
variable {Z V U U':AW} {v:cA} {sv ev cv:ae} {s:RS} {i:Nat} {bo:Option Nat} {pb:Int->Nat} {x:de} {o:ei}
def uJ{t:Option (ae×AW)}{o:Option (ae×AW)}{e:Int}(h:iy V U v sv ev s i cv bo pb)(oK:Ok t λr=>r.1=.af e/\s8 V U r.2 v sv ev s i x)(Li:∀{r},t=some r->o=some (gc U r)):∃U',o=some (.af e,U')/\s8 V U U' v sv ev s i x:=by
 obtain⟨q,W',h1,rfl,h2⟩:=qN (Q:=λq W'=>q=.af e/\s8 V U W' v sv ev s i x) oK Li
  (λq W' ⟨e,a,b,c⟩ a8 hp=>⟨e,h.le,aP _,λhe=>let⟨lN,bo',Lg,k⟩:=c he;⟨lN,bo',Lg,h.back k a8⟩⟩)
 exact⟨W',h1,h2⟩
open Classical in
def sO(ho:s.of x.wk=some o)(h1:x.k≠1)(h5:x.k≠5)(h6:x.k≠6):cY v s x=if iK v (aZ s o.c).op o.s=((fX x.k,x.lk),0)then(if x.k=2/\(s.lk x.lk).isSome=true then 20 else 0)else 6:=by unfold cY;rw[ay h1,ho];simp only[ay h5,ay h6,ne_eq,ite_not]
def CX(ho:s.of x.wk=some o)(h1:x.k≠1)(h5:x.k≠5)(h6:x.k≠6):rN s i x={s with cl:=if x.k=3 then ql s.cl o.c λc=>{c with co:=i,rp:=x.rp}else s.cl,of:=λw=>if w=x.wk then some (ns o)else s.of w,lk:=λk=>if k=x.lk then(if x.k=2 then some x.id else if x.k=4 then none else s.lk k)else s.lk k}:=by unfold rN;rw[ay h1,ho];simp only[ay h5,ay h6];rfl
open Classical in
def Y5(hG:GW V)(h:iy V U v sv ev s i cv bo pb)(hI:kZ s)(ho:s.of x.wk=some o)(hs:fJ V sv v.az)(hv:v.az.length<1000)(hk:x.k=2):
 ∃U',bm (.func (.func 49) #[] #[]) [cr (V.next+2),AT x] U=some (.af (cY v s x),U')/\s8 V U U' v sv ev s i x:=by
 refine uJ h ?_ vC;unfold rj;obtain⟨U1,jO⟩:∃U1,U1=U.add (.cells (fe x)):=⟨_,rfl⟩;have l1:Le U U1:=by rw[jO];exact(Le.refl _).add _
 have n1:U1.next=U.next+1:=by rw[jO];rfl
 have hb:U1.get U.next=some (.cells (fe x)):=by rw[jO];exact AW.aT _ _
 have bx:=vP x U;rw[<-jO]at bx;have h1:=h.mono l1;obtain⟨U2,k1,k2,k3,k4,k5⟩:=LV (x:=x) hG h1 hI ho hs hv 1;have hE:=sO (v:=v) ho (by omega) (by omega) (by omega);have hkt:fX x.k=1:=by unfold fX;rw[ax hk]
 rw[hkt]at hE;obtain⟨-,pb2,-,-⟩:=h.p _ _ ho;simp only[SX,bx,mp hb,k1];by_cases c1:iK v (aZ s o.c).op o.s=((1,x.lk),0);case neg=>
  have Sq:cY v s x=6:=by rw[hE,ay c1]
  have d:decide ((6:Int)=0)=false:=rfl;simp only[SX,ay c1,d,am];exact⟨by rw[Sq],k2,by omega,λe=>by rw[Sq]at e;exact absurd e (by decide)⟩
 rw[ax c1]at hE;have h2:=k5 c1;have iW:U2.get U.next=some (.cells (fe x)):=(k4 _ (by omega) (by omega)).trans hb;have d:decide ((0:Int)=0)=true:=rfl;obtain⟨l5,l6,l7,-⟩:=h2.ld;have lL:=h2.agS x.lk;have e1:(s.Tn x.wk (ns o)).lk=s.lk:=rfl;rw[e1]at lL;cases c2:(s.lk x.lk).isSome with
 |true=>
  have Sq:cY v s x=20:=by rw[hE,ax ⟨hk,c2⟩]
  rw[c2]at lL;simp only[SX,ax c1,bf,aI,l7,qy iW,lL,am];exact⟨by rw[Sq],k2,by omega,λe=>by rw[Sq]at e;exact absurd e (by decide)⟩
 |false=>
  have Sq:cY v s x=0:=by rw[hE,ay (by rw[c2];simp)]
  rw[c2]at lL;obtain⟨U3,m1,m2,m3⟩:=h2.jg x.lk x.id;simp only[SX,ax c1,bf,aI,l7,qy iW,lL,fw iW,m1,am];refine⟨by rw[Sq],m3.le,by omega,λ_=>⟨cv,bo,pb,?_⟩⟩;rw[CX ho (by omega) (by omega) (by omega)];simp only[hk,bh,ay (show¬(2:Int)=3 by decide)];exact m3
open Classical in
def Yj(hG:GW V)(h:iy V U v sv ev s i cv bo pb)(hI:kZ s)(ho:s.of x.wk=some o)(hs:fJ V sv v.az)(hv:v.az.length<1000)(hk:x.k=4):
 ∃U',bm (.func (.func 51) #[] #[]) [cr (V.next+2),AT x] U=some (.af (cY v s x),U')/\s8 V U U' v sv ev s i x:=by
 refine uJ h ?_ vF;unfold rn;obtain⟨U1,jO⟩:∃U1,U1=U.add (.cells (fe x)):=⟨_,rfl⟩;have l1:Le U U1:=by rw[jO];exact(Le.refl _).add _
 have n1:U1.next=U.next+1:=by rw[jO];rfl
 have hb:U1.get U.next=some (.cells (fe x)):=by rw[jO];exact AW.aT _ _
 have bx:=vP x U;rw[<-jO]at bx;have h1:=h.mono l1;obtain⟨l5,l6,l7,-⟩:=h1.ld;obtain⟨U2,m1,m2,m3,m4⟩:=h1.aeW x.lk;have WW:=h.nx;have iW:U2.get U.next=some (.cells (fe x)):=(m4 _ (by omega)).trans hb;obtain⟨U3,k1,k2,k3,k4,k5⟩:=LV (x:=x) hG m3 ⟨hI.ids,hI.of,hI.len,hI.wk,hI.steps⟩ ho hs hv 3;have hE:=sO (v:=v) ho (by omega) (by omega) (by omega);have hkt:fX x.k=3:=by unfold fX;rw[b8,b8]
 rw[hkt,ay (show¬(x.k=2/\(s.lk x.lk).isSome=true)by omega)]at hE;simp only[SX,bx,bf,aI,l7,qy hb,m1,mp iW,k1,am];refine⟨by rw[hE];rfl,k2,by omega,λe=>?_⟩;rw[hE]at e;split at e
 ·rename_i c1;have h2:=k5 c1;refine⟨cv,bo,pb,?_⟩;rw[CX ho (by omega) (by omega) (by omega)];simp only[hk,bh,ay (show¬(4:Int)=3 by decide),ay (show¬(4:Int)=2 by decide)];exact h2
 ·omega
open Classical in
def RW(hG:GW V)(h:iy V U v sv ev s i cv bo pb)(hI:kZ s)(ho:s.of x.wk=some o)(hs:fJ V sv v.az)(hv:v.az.length<1000)(hk:x.k=5):
 ∃U',bm (.func (.func 52) #[] #[]) [cr (V.next+2),AT x] U=some (.af (cY v s x),U')/\s8 V U U' v sv ev s i x:=by
 refine uJ h ?_ tj;unfold oI;obtain⟨U1,jO⟩:∃U1,U1=U.add (.cells (fe x)):=⟨_,rfl⟩;have l1:Le U U1:=by rw[jO];exact(Le.refl _).add _
 have n1:U1.next=U.next+1:=by rw[jO];rfl
 have hb:U1.get U.next=some (.cells (fe x)):=by rw[jO];exact AW.aT _ _
 have bx:=vP x U;rw[<-jO]at bx;have h1:=h.mono l1;obtain⟨l5,l6,l7,l8,l9,l10,lv⟩:=h1.ld;have lk:=h1.look x.wk;rw[ho]at lk;simp only[cS,rZ]at lk;obtain⟨p1,p2,p3,p4⟩:=h1.p _ _ ho;have mr:=hI.of _ _ ho;obtain⟨B,YV,hBn,hB,Xg⟩:=h1.call mr;obtain⟨-,f2,-⟩:=rA hB mr;have lp0:aK (cr (pb x.wk)) U1=some (.af (o.c:Int),U1):=eQ p4 rfl;have lp1:aK (.pointer (some ⟨pb x.wk,1,none⟩)) U1=some (.af (o.s:Int),U1):=eQ p4 rfl;have nS:=H1 (o:=(aZ s o.c).op) (hs.mono h1.le) hv (hG.mono h1.le);have hE:cY v s x=if(o.s:Int)<(km v (aZ s o.c).op).1 then 6 else 0:=by unfold cY;rw[b8,ho];simp only[ax hk]
 simp only[SX,bx,bf,aI,l6,fx hb,lk,lv,l5,lp0,Xg,f2,nS,lp1];by_cases c1:(o.s:Int)<(km v (aZ s o.c).op).1
 ·have d:=aS c1;rw[ax c1]at hE;simp only[SX,d,am];exact⟨by rw[hE],h1.le,by omega,λe=>by rw[hE]at e;exact absurd e (by decide)⟩
 have d:=bq c1;rw[ay c1]at hE;have st:=Pd hB mr (i:Int);have h2:=h1.Tt mr YV {s.cl[o.c]with an:=(i:Int)};obtain⟨U2,j7⟩:∃U2,U2=U1.put B (.cells ((s.cl.set o.c {s.cl[o.c]with an:=(i:Int)}).flatMap gq)):=⟨_,rfl⟩;rw[<-j7]at st h2;have n2:U2.next=U1.next:=by rw[j7];rfl
 have fk:B≠U.next:=λe=>by have:=h.c.lt YV;omega
 have iW:U2.get U.next=some (.cells (fe x)):=by rw[j7];exact(AW.aE _ _ fk).trans hb
 obtain⟨-,q6,-⟩:=h2.ld;obtain⟨U3,m1,m2,m3⟩:=h2.amu x.wk;simp only[SX,d,l10,st,q6,fx iW,m1,am];refine⟨by rw[hE],m3.le,by omega,λ_=>⟨cv,bo,pb,?_⟩⟩;have er:rN s i x={s with cl:=ql s.cl o.c λc=>{c with an:=i},of:=λw=>if w=x.wk then none else s.of w}:=by unfold rN;rw[b8,ho];simp only[ax hk]
 rw[er,BO mr];exact m3
def agZ(r:In):fK (IR r) (IR r)=true:=nW (by simp[Sv,tr])
open Classical in
def Pk(hG:GW V)(h:iy V U v sv ev s i cv bo pb)(hI:kZ s)(ho:s.of x.wk=some o)(hs:fJ V sv v.az)(hv:v.az.length<1000)(hk:x.k=3):
 ∃U',bm (.func (.func 50) #[] #[]) [cr (V.next+2),AT x] U=some (.af (cY v s x),U')/\s8 V U U' v sv ev s i x:=by
 refine uJ h ?_ tl;unfold oL;obtain⟨U1,jO⟩:∃U1,U1=U.add (.cells (fe x)):=⟨_,rfl⟩;have l1:Le U U1:=by rw[jO];exact(Le.refl _).add _
 have n1:U1.next=U.next+1:=by rw[jO];rfl
 have hb:U1.get U.next=some (.cells (fe x)):=by rw[jO];exact AW.aT _ _
 have bx:=vP x U;rw[<-jO]at bx;have h1:=h.mono l1;obtain⟨l5,l6,l7,l8,l9,l10,lv⟩:=h1.ld;have lk:=h1.look x.wk;rw[ho]at lk;simp only[cS,rZ]at lk;obtain⟨p1,p2,p3,p4⟩:=h1.p _ _ ho;have mr:=hI.of _ _ ho;obtain⟨B,YV,hBn,hB,Xg⟩:=h1.call mr;have lp0:aK (cr (pb x.wk)) U1=some (.af (o.c:Int),U1):=eQ p4 rfl;have fk:B≠U.next:=λe=>by have:=h.c.lt YV;omega
 have st:=OH hB mr (i:Int);have h2:=h1.Tt mr YV {s.cl[o.c]with co:=(i:Int)};obtain⟨U2,j7⟩:∃U2,U2=U1.put B (.cells ((s.cl.set o.c {s.cl[o.c]with co:=(i:Int)}).flatMap gq)):=⟨_,rfl⟩;have Pe:U2.get B=some (.cells ((s.cl.set o.c {s.cl[o.c]with co:=(i:Int)}).flatMap gq)):=by rw[j7];exact AW.bz _ _ _
 rw[<-j7]at st h2;have n2:U2.next=U1.next:=by rw[j7];rfl
 have iW:U2.get U.next=some (.cells (fe x)):=by rw[j7];exact(AW.aE _ _ fk).trans hb
 have vX:o.c<(s.cl.set o.c {s.cl[o.c]with co:=(i:Int)}).length:=by rw[kp];exact mr
 have Yu:=OI Pe vX x.rp;have h3:=h2.Tt vX YV {(s.cl.set o.c {s.cl[o.c]with co:=(i:Int)})[o.c]with rp:=x.rp};obtain⟨U3,ED⟩:∃U3,U3=U2.put B (.cells (((s.cl.set o.c {s.cl[o.c]with co:=(i:Int)}).set o.c {(s.cl.set o.c {s.cl[o.c]with co:=(i:Int)})[o.c]with rp:=x.rp}).flatMap gq)):=⟨_,rfl⟩;rw[<-ED]at Yu h3;have n3:U3.next=U2.next:=by rw[ED];rfl
 have EU:U3.get U.next=some (.cells (fe x)):=by rw[ED];exact(AW.aE _ _ fk).trans iW
 have ecl:(s.cl.set o.c {s.cl[o.c]with co:=(i:Int)}).set o.c {(s.cl.set o.c {s.cl[o.c]with co:=(i:Int)})[o.c]with rp:=x.rp}=s.cl.set o.c {s.cl[o.c]with co:=(i:Int),rp:=x.rp}:=by rw[List.set_set,List.getElem_set_self]
 have h3':iy V U3 v sv ev {s with cl:=s.cl.set o.c {s.cl[o.c]with co:=(i:Int),rp:=x.rp}} i cv bo pb:=by
  have e:({{s with cl:=s.cl.set o.c {s.cl[o.c]with co:=(i:Int)}}with cl:=(s.cl.set o.c {s.cl[o.c]with co:=(i:Int)}).set o.c {(s.cl.set o.c {s.cl[o.c]with co:=(i:Int)})[o.c]with rp:=x.rp}}:RS)={s with cl:=s.cl.set o.c {s.cl[o.c]with co:=(i:Int),rp:=x.rp}}:=by rw[ecl]
  rw[<-e];exact h3
 have hI3:kZ {s with cl:=s.cl.set o.c {s.cl[o.c]with co:=(i:Int),rp:=x.rp}}:=by
  refine⟨λj c hc=>?_,λw q hq=>?_,?_,hI.wk,hI.steps⟩
  ·simp only[sa]at hc;by_cases e:o.c=j
   ·rw[ax e,ou]at hc;injection hc with hc;subst hc;exact hI.ids j s.cl[o.c] (by rw[<-e];exact cL mr)
   ·rw[ay e]at hc;exact hI.ids j c hc
  ·simp only[kp];exact hI.of w q hq
  ·simp only[kp];exact hI.len
 have eop:(aZ {s with cl:=s.cl.set o.c {s.cl[o.c]with co:=(i:Int),rp:=x.rp}} o.c).op=(aZ s o.c).op:=by rw[pD mr,pD (s:={s with cl:=s.cl.set o.c {s.cl[o.c]with co:=(i:Int),rp:=x.rp}}) (by simp only[kp];exact mr)];simp only[List.getElem_set_self]
 obtain⟨U4,k1,k2,k3,k4,k5⟩:=LV (x:=x) hG h3' hI3 ho hs hv 2;rw[eop]at k1 k5;have hE:=sO (v:=v) ho (by omega) (by omega) (by omega);have hkt:fX x.k=2:=by unfold fX;rw[b8,ax hk]
 rw[hkt,ay (show¬(x.k=2/\(s.lk x.lk).isSome=true)by omega)]at hE;simp only[SX,bx,bf,aI,l5,l6,fx hb,lk,lp0,Xg,l10,yU hb,st,kE,yU iW,agZ,iM,Yu,mp EU,k1,am];refine⟨by rw[hE],k2,by omega,λe=>?_⟩;rw[hE]at e;split at e
 ·rename_i c1;have h4:=k5 c1;refine⟨cv,bo,pb,?_⟩;rw[CX ho (by omega) (by omega) (by omega)];have elk:(λk=>if k=x.lk then(if x.k=2 then some x.id else if x.k=4 then none else s.lk k)else s.lk k)=s.lk:=by
   funext k;by_cases e:k=x.lk
   ·rw[ax e,b8,b8]
   ·rw[ay e]
  rw[elk,ax hk,BO mr];exact h4
 ·omega
end
def Oi{α:Type}{P:Program}{W:AW}{ts:Array ai}{z bytes:Nat}{f:α->List ae}{v:ae}{l:List α}{bo:Option Nat}(a:α)(hk:iR P ts z bytes=true)(hf:∀a,(f a).length=z)(h1:∀a,(f a).all Eng.one=true)
 (h:nA W z f v l bo)(hb:l.length+1<1099511627776)(iW:(2*(l.length+1)+192)*bytes<=281474976710656):
 ∃v' W',aN P (W.add (.cells (f a))) ts v (.slice (some ⟨W.next,0,none⟩) 1 1)=some (v',W')/\nA W' z f v' (l++[a]) (some (W.next+1))/\W'.next=W.next+2/\∀b,b<W.next->bo≠some b->W'.get b=W.get b:=by
 have h':nA (W.add (.cells (f a))) z f v l bo:=h.dq (by rw[AW.aG];omega) λB hB=>AW.br _ _ (by have:=h.lt hB;omega)
 obtain⟨v',W',a1,a2,a3,a4⟩:=h'.push (a:=a) hk hf h1 (b:=W.next) (c:=1) bE hb iW;rw[AW.aG]at a2 a3;exact⟨v',W',a1,a2,a3,λb hb fk=>(a4 b (by rw[AW.aG];omega) fk).trans (AW.br _ _ (by omega))⟩
def Ox{α:Type}{W:AW}{z:Nat}{f:α->List ae}{v:ae}{l:List α}{bo:Option Nat}(h:nA W z f v l bo):v.cells=#[v]/\Eng.one v=true:=by rcases h with⟨-,rfl,-⟩|⟨-,B,-,-,rfl,-⟩<;>exact⟨rfl,rfl⟩
def Xq:iR Tryz.prog #[33,33] 26 192=true:=by kernel_rfl
def afW(y:pc)(W:AW):aD Tryz.prog 33 1 [(0,clV y)] W=some (.slice (some ⟨W.next,0,none⟩) 1 1,W.add (.cells (gq y))):=aJ (by kernel_rfl) rfl
def afS(id wk a b c:Int)(o:qS)(W:AW):bD Tryz.prog 45 [(0,.af id),(1,.af wk),(2,z8 o),(4,.af a),(5,.af b),(6,.af c)] W=some (clV ⟨id,wk,o,wO,a,b,c⟩,W):=aJ (by kernel_rfl) rfl
def agk(n:Int)(W:AW):bD Tryz.prog 125 [(0,.af n)] W=some (.agg #[.af n,.af 0,.bool false],W):=aJ (by kernel_rfl) rfl
section
variable {Z V U U':AW} {v:cA} {sv ev cv:ae} {s:RS} {i:Nat} {bo:Option Nat} {pb:Int->Nat} {x:de} {o:ei}
def iy.push(h:iy V U v sv ev s (i:Int) cv bo pb)(hl:s.cl.length<=1000)(y:pc):∃lN U1 U2,aN Tryz.prog (U.add (.cells (gq y))) #[33,33] cv (.slice (some ⟨U.next,0,none⟩) 1 1)=some (lN,U1)/\bP 1 (.pointer (some ⟨V.next+2,5,none⟩)) lN U1=some (ag,U2)/\U.next<=U2.next/\iy V U2 v sv ev {s with cl:=s.cl++[y]} i lN (some (U.next+1)) pb:=by
 have hn:=h.nx;obtain⟨lN,U1,a1,a2,a3,a4⟩:=Oi y Xq dA BN h.c (by omega) (by omega);have nb:∀{b},b<V.next+5->bo≠some b:=λhb e=>by have:=h.b _ e;omega
 have hw1:U1.get (V.next+2)=some (.cells (Eo v sv ev cv V.next (V.next+1) s.tn s.st i)):=(a4 _ (by omega) (nb (by omega))).trans h.w;have st:bP 1 (.pointer (some ⟨V.next+2,5,none⟩)) lN U1=some (ag,U1.put (V.next+2) (.cells (Eo v sv ev lN V.next (V.next+1) s.tn s.st i))):=by rw[gx (Ox a2).1 (Ox a2).2,Bp hw1];rfl
 obtain⟨n,ho⟩:=h.o;obtain⟨m,hm⟩:=h.l;have g:∀b,b<U.next->b≠V.next+2->bo≠some b->(U1.put (V.next+2) (.cells (Eo v sv ev lN V.next (V.next+1) s.tn s.st i))).get b=U.get b:=λb h1 h2 h3=>(AW.aE _ _ (bL h2)).trans (a4 b h1 h3)
 refine⟨lN,U1,_,a1,st,by rw[AW.cT];omega,⟨by rw[AW.cT];have:=h.le.next;omega,λb hb=>(g b (by omega) (by omega) (nb (by omega))).trans (h.le.get b hb)⟩,by rw[AW.cT];omega,AW.bz _ _ _,(g _ (by omega) (by omega) (nb (by omega))).trans h.r,?_,⟨n,ho.dq (g _ (by omega) (by omega) (nb (by omega)))⟩,⟨m,hm.dq (g _ (by omega) (by omega) (nb (by omega)))⟩,λk q hk=>?_,λB hB=>?_,h.inj⟩
 ·exact a2.dq (by rw[AW.cT];omega) λB hB=>AW.aE _ _ (by injection hB with hB;omega)
 ·obtain⟨a,b,c,d⟩:=h.p k q hk;exact⟨a,by rw[AW.cT];omega,λe=>by injection e with e;omega,(g _ b (by omega) c).trans d⟩
 ·injection hB with hB;omega
open Classical in
def Q0(hG:GW V)(h:iy V U v sv ev s i cv bo pb)(hI:kZ s)(hk:x.k=1):
 ∃U',bm (.func (.func 48) #[] #[]) [cr (V.next+2),AT x] U=some (.af (cY v s x),U')/\s8 V U U' v sv ev s i x:=by
 refine uJ h ?_ tf;unfold oV;obtain⟨U1,jO⟩:∃U1,U1=U.add (.cells (fe x)):=⟨_,rfl⟩;have l1:Le U U1:=by rw[jO];exact(Le.refl _).add _
 have n1:U1.next=U.next+1:=by rw[jO];rfl
 have hb:U1.get U.next=some (.cells (fe x)):=by rw[jO];exact AW.aT _ _
 have bx:=vP x U;rw[<-jO]at bx;have h1:=h.mono l1;have WW:=h.nx;obtain⟨l5,l6,l7,l8,l9,l10,lv⟩:=h1.ld;have lk:=h1.look x.wk;have hE:cY v s x=if(s.of x.wk).isSome=true then 8 else if s.cl.length=200 then 3 else if x.id≠(s.cl.length:Int)+1 then 6 else opE x.op:=by unfold cY;rw[ax hk]
 have bad:∀{e:Int},cY v s x=e->e≠0->(Value.int .i64 e=.af (cY v s x))/\s8 V U U1 v sv ev s i x:=λhe h0=>⟨by rw[he],h1.le,by omega,λe=>absurd (he.symm.trans e) h0⟩
 cases ho:s.of x.wk with
 |some o=>rw[ho]at lk hE;simp only[cS,rZ]at lk;simp only[SX,bx,bf,aI,l6,fx hb,lk,pNe,am];exact bad hE (by decide)
 |none=>
 rw[ho]at lk hE;simp only[Option.map_none,Option.getD_none]at lk;rw[ay (by simp)]at hE;have eA:=hI.len;have ln:∀W',aB Tryz.prog .len #[33] 3 #[false] [cv] W'=some (.af (s.cl.length:Int),W'):=λW'=>Row.len (W:=U1) (z:=26) (at_:=jD 26 gq) (h1.c.YA.el.row dA (jT dA)) aai W' 3 #[false]
 by_cases c1:s.cl.length=200
 ·rw[ax c1]at hE;have d1:decide ((s.cl.length:Int)=200)=true:=jr;simp only[SX,bx,bf,aI,l6,fx hb,lk,NK,l5,ln,d1,am];exact bad hE (by decide)
 rw[ay c1]at hE;have d1:decide ((s.cl.length:Int)=200)=false:=dS;have ad:=λW'=>cQ W' (s.cl.length:Int) 1
 by_cases c2:x.id=(s.cl.length:Int)+1;case neg=>rw[ax c2]at hE;have d2:=bq c2;simp only[SX,bx,bf,aI,l6,fx hb,lk,NK,l5,ln,d1,fw hb,ad,d2,am];exact bad hE (by decide)
 rw[ay (by simpa using c2)]at hE;have d2:=aS c2;have ck:=PB x.op (hG.mono h1.le);by_cases c3:opE x.op=0;case neg=>have d3:=bq c3;simp only[SX,bx,bf,aI,l6,fx hb,lk,NK,l5,ln,d1,fw hb,ad,d2,tx hb,ck,d3,am];exact bad hE c3
 rw[c3]at hE;have d3:=aS c3;obtain⟨U2,j7⟩:∃U2,U2=U1.add (.cells [.af (s.cl.length:Int),.af 0,.bool false]):=⟨_,rfl⟩;have l2:Le U1 U2:=by rw[j7];exact(Le.refl _).add _
 have n2:U2.next=U1.next+1:=by rw[j7];rfl
 have bx2:cD (.agg #[.af (s.cl.length:Int),.af 0,.bool false]) U1=some (cr U1.next,U2):=by rw[j7];exact gD _
 have h2:=h1.mono l2;have g2:U2.get U1.next=some (.cells [.af ((⟨s.cl.length,0,false⟩:ei).c:Int),.af ((⟨s.cl.length,0,false⟩:ei).s:Int),.bool (⟨s.cl.length,0,false⟩:ei).e]):=by rw[j7];exact AW.aT _ _
 obtain⟨U3,m1,m2,m3,m4⟩:=h2.air x.wk ⟨s.cl.length,0,false⟩ (B:=U1.next) (by omega) (by omega) g2 (λe=>by have:=h1.c.lt e;omega) (λj q hq=>by have:=(h1.p j q hq).2.1;omega);have EU:U3.get U.next=some (.cells (fe x)):=(m4 _ (by omega)).trans ((l2.get _ (by omega)).trans hb);obtain⟨q5,q6,q7,q8,q9,q10,-⟩:=m3.ld;obtain⟨lN,U4,U5,k1,k2,k3,k4⟩:=m3.push (by show s.cl.length<=1000;omega) ⟨x.id,x.wk,x.op,wO,i,-1,-1⟩;simp only[SX,bx,bf,aI,l6,fx hb,lk,NK,l5,ln,d1,fw hb,ad,d2,tx hb,ck,d3,agk,bx2,m1,q5,q10,fw EU,fx EU,tx EU,afS,afW,k1,k2,am];refine⟨by rw[hE],k4.le,by omega,λ_=>⟨lN,some (U3.next+1),λj=>if j=x.wk then U1.next else pb j,?_⟩⟩;have er:rN s i x={s with cl:=s.cl++[⟨x.id,x.wk,x.op,wO,i,-1,-1⟩],of:=λw=>if w=x.wk then some ⟨s.cl.length,0,false⟩else s.of w}:=by unfold rN;rw[ax hk]
 rw[er];exact k4
def acB{W:AW}{b:Nat}{a c d:ae}(h:W.get b=some (.cells [a,c,d]))(e:Bool):bP 1 (.pointer (some ⟨b,2,none⟩)) (.bool e) W=some (ag,W.put b (.cells [a,c,.bool e])):=by rw[gx rfl rfl,Bp h];rfl
def agq(r:EE):fK (Lv r) (Lv r)=true:=nW (by simp[Sv,tr])
open Classical in
def VG(h:iy V U v sv ev s i cv bo pb)(hI:kZ s)(ho:s.of x.wk=some o)(hk:x.k=6):
 ∃U',bm (.func (.func 53) #[] #[]) [cr (V.next+2),AT x] U=some (.af (cY v s x),U')/\s8 V U U' v sv ev s i x:=by
 refine uJ h ?_ tU;unfold pH;obtain⟨U1,jO⟩:∃U1,U1=U.add (.cells (fe x)):=⟨_,rfl⟩;have l1:Le U U1:=by rw[jO];exact(Le.refl _).add _
 have n1:U1.next=U.next+1:=by rw[jO];rfl
 have hb:U1.get U.next=some (.cells (fe x)):=by rw[jO];exact AW.aT _ _
 have bx:=vP x U;rw[<-jO]at bx;have h1:=h.mono l1;obtain⟨l5,l6,l7,l8,l9,l10,lv⟩:=h1.ld;have lk:=h1.look x.wk;rw[ho]at lk;simp only[cS,rZ]at lk;obtain⟨p1,p2,p3,p4⟩:=h1.p _ _ ho;have mr:=hI.of _ _ ho;obtain⟨B,YV,hBn,hB,Xg⟩:=h1.call mr;obtain⟨-,-,f3⟩:=rA hB mr;have lp0:aK (cr (pb x.wk)) U1=some (.af (o.c:Int),U1):=eQ p4 rfl;have hE:cY v s x=if CC (aZ s o.c) o x.en then 0 else 6:=by unfold cY;rw[b8,ho];simp only[ay (show¬x.k=5 by omega),ax hk]
 have WW:=h.nx;obtain⟨U2,j7⟩:∃U2,U2=U1.add (.cells (gq (aZ s o.c))):=⟨_,rfl⟩;have pt:=ZP (aZ s o.c) U1;rw[<-j7]at pt;have l2:Le U1 U2:=by rw[j7];exact(Le.refl _).add _
 have n2:U2.next=U1.next+1:=by rw[j7];rfl
 have g2:U2.get U1.next=some (.cells (gq (aZ s o.c))):=by rw[j7];exact AW.aT _ _
 have ltk:bA 4 (.pointer (some ⟨U1.next,9,none⟩)) U2=some (.agg #[.int .u32 (aZ s o.c).op.t1,.int .u32 (aZ s o.c).op.t2,.int .u64 (aZ s o.c).op.t3,.int .u64 (aZ s o.c).op.t4],U2):=eh (bk g2) rfl;have ame:=DV ((l2.get _ (by omega)).trans hb);obtain⟨U3,ED⟩:∃U3,U3=U2.add (.cells [.int .u32 (aZ s o.c).op.t1,.int .u32 (aZ s o.c).op.t2,.int .u64 (aZ s o.c).op.t3,.int .u64 (aZ s o.c).op.t4]):=⟨_,rfl⟩;obtain⟨U4,ME⟩:∃U4,U4=(U2.add (.cells [.int .u32 0,.int .u32 0,.int .u64 0,.int .u64 0])).add (.cells (Ik Ex)):=⟨_,rfl⟩;have a2:aY Tryz.prog 60 (U2.add (.cells [.int .u32 0,.int .u32 0,.int .u64 0,.int .u64 0]))=some (cr (U2.next+1),U4):=by rw[ak0,ME,AW.aG]
 have n4:U4.next=U2.next+2:=by rw[ME];rfl
 have g4:U4.get U2.next=some (.cells [.int .u32 0,.int .u32 0,.int .u64 0,.int .u64 0]):=by rw[ME];exact(AW.br _ _ (by rw[AW.aG];omega)).trans (AW.aT _ _)
 have g4':U4.get (U2.next+1)=some (.cells (Ik Ex)):=by rw[ME];exact AW.aT (U2.add _) _
 have l4:Le U2 U4:=by rw[ME];exact((Le.refl _).add _).add _
 have s4:=ov (n:=4) (vs:=#[.int .u32 (aZ s o.c).op.t1,.int .u32 (aZ s o.c).op.t2,.int .u64 (aZ s o.c).op.t3,.int .u64 (aZ s o.c).op.t4]) g4 rfl rfl rfl;obtain⟨U5,Lk⟩:∃U5,U5=U4.put U2.next (.cells [.int .u32 (aZ s o.c).op.t1,.int .u32 (aZ s o.c).op.t2,.int .u64 (aZ s o.c).op.t3,.int .u64 (aZ s o.c).op.t4]):=⟨_,rfl⟩;have s4':bP 4 (cr U2.next) (.agg #[.int .u32 (aZ s o.c).op.t1,.int .u32 (aZ s o.c).op.t2,.int .u64 (aZ s o.c).op.t3,.int .u64 (aZ s o.c).op.t4]) U4=some (ag,U5):=by rw[Lk];exact s4
 have l5':Le U2 U5:=by rw[Lk];exact l4.put (aP _) _
 have g5:U5.get U2.next=some (.cells [.int .u32 (aZ s o.c).op.t1,.int .u32 (aZ s o.c).op.t2,.int .u64 (aZ s o.c).op.t3,.int .u64 (aZ s o.c).op.t4]):=by rw[Lk];exact AW.bz _ _ _
 have g5':U5.get (U2.next+1)=some (.cells (Ik Ex)):=by rw[Lk];exact(AW.aE _ _ (by omega)).trans g4'
 have amr:=DV ((l5'.get _ (by omega)).trans ((l2.get _ (by omega)).trans hb));have s5:=ov (n:=5) (vs:=(Ik x.en).toArray) g5' rfl rfl rfl;obtain⟨U6,X4⟩:∃U6,U6=U5.put (U2.next+1) (.cells (Ik x.en)):=⟨_,rfl⟩;have s5':bP 5 (cr (U2.next+1)) (Lv x.en) U5=some (ag,U6):=by rw[X4];exact s5
 have n5:U5.next=U4.next:=by rw[Lk];rfl
 have n6:U6.next=U5.next:=by rw[X4];rfl
 have l6':Le U2 U6:=by rw[X4];exact l5'.put (by omega) _
 have g6:U6.get U2.next=some (.cells [.int .u32 (aZ s o.c).op.t1,.int .u32 (aZ s o.c).op.t2,.int .u64 (aZ s o.c).op.t3,.int .u64 (aZ s o.c).op.t4]):=by rw[X4];exact(AW.aE _ _ (by omega)).trans g5
 have g6':U6.get (U2.next+1)=some (.cells (Ik x.en)):=by rw[X4];exact AW.bz _ _ _
 have gc6:U6.get U1.next=some (.cells (gq (aZ s o.c))):=(l6'.get _ (by omega)).trans g2;have h6:=h1.mono (l2.trans l6');obtain⟨r1,r2,r3,r4⟩:=h6.p _ _ ho;have e0:aK (cr (U2.next+1)) U6=some (.int .u32 x.en.se,U6):=eQ g6' rfl;have e1:aK (.pointer (some ⟨U2.next+1,1,none⟩)) U6=some (.int .u64 x.en.sr,U6):=eQ g6' rfl;have e2:aK (.pointer (some ⟨U2.next+1,2,none⟩)) U6=some (.int .u64 x.en.ep,U6):=eQ g6' rfl;have e3:aK (.pointer (some ⟨U2.next+1,3,none⟩)) U6=some (.af x.en.ga,U6):=eQ g6' rfl;have e4:aK (.pointer (some ⟨U2.next+1,4,none⟩)) U6=some (.af x.en.ti,U6):=eQ g6' rfl;have t0:aK (cr U2.next) U6=some (.int .u32 (aZ s o.c).op.t1,U6):=eQ g6 rfl;have t2:aK (.pointer (some ⟨U2.next,2,none⟩)) U6=some (.int .u64 (aZ s o.c).op.t3,U6):=eQ g6 rfl;have t3:aK (.pointer (some ⟨U2.next,3,none⟩)) U6=some (.int .u64 (aZ s o.c).op.t4,U6):=eQ g6 rfl;have c2:aK (.pointer (some ⟨U1.next,2,none⟩)) U6=some (.af (aZ s o.c).op.k,U6):=eQ gc6 rfl;have Xc:aK (.pointer (some ⟨U1.next,24,none⟩)) U6=some (.af (aZ s o.c).co,U6):=eQ gc6 rfl;have Y3:aK (.pointer (some ⟨U1.next,14,none⟩)) U6=some (.af (aZ s o.c).rp.er,U6):=eQ gc6 rfl;have lpe:aK (.pointer (some ⟨pb x.wk,2,none⟩)) U6=some (.bool o.e,U6):=eQ r4 rfl;have sB:=acB r4 true;have h7:=h6.ahi ho ⟨o.c,o.s,true⟩;have bad:¬CC (aZ s o.c) o x.en->(Value.int .i64 6=.af (cY v s x))/\s8 V U U6 v sv ev s i x:=λhm=>by
  have he:cY v s x=6:=by rw[hE,ay hm]
  exact⟨by rw[he],h6.le,by omega,λe=>by rw[he]at e;exact absurd e (by decide)⟩
 simp only[SX,bx,bf,aI,l6,fx hb,lk,l5,lp0,Xg,f3,aft,pt,ltk,ame,aeU,a2,s4',kE,amr,agq,iM,s5',e0,t0];by_cases a1:x.en.se=(aZ s o.c).op.t1;case neg=>
  have q1:=bq a1;have nm:¬CC (aZ s o.c) o x.en:=λm=>a1 m.2.2.2.2.1
  simp only[SX,q1,c2];by_cases b1:(aZ s o.c).op.k=9<;>by_cases b2:(aZ s o.c).co<0<;>by_cases b3:(aZ s o.c).rp.er=0<;>cases b4:o.e<;>
   simp only[SX,b1,b2,b3,b4,aI,Xc,Y3,bf,lpe,am]<;>exact bad nm
 have q1:=aS a1;simp only[SX,q1,e1,t2];by_cases a2:x.en.sr=(aZ s o.c).op.t3;case neg=>
  have q2:=bq a2;have nm:¬CC (aZ s o.c) o x.en:=λm=>a2 m.2.2.2.2.2.1
  simp only[SX,q2,c2];by_cases b1:(aZ s o.c).op.k=9<;>by_cases b2:(aZ s o.c).co<0<;>by_cases b3:(aZ s o.c).rp.er=0<;>cases b4:o.e<;>
   simp only[SX,b1,b2,b3,b4,aI,Xc,Y3,bf,lpe,am]<;>exact bad nm
 have q2:=aS a2;simp only[SX,q2,e2,t3];by_cases a3:x.en.ep=(aZ s o.c).op.t4;case neg=>
  have q3:=bq a3;have nm:¬CC (aZ s o.c) o x.en:=λm=>a3 m.2.2.2.2.2.2.1
  simp only[SX,q3,c2];by_cases b1:(aZ s o.c).op.k=9<;>by_cases b2:(aZ s o.c).co<0<;>by_cases b3:(aZ s o.c).rp.er=0<;>cases b4:o.e<;>
   simp only[SX,b1,b2,b3,b4,aI,Xc,Y3,bf,lpe,am]<;>exact bad nm
 have q3:=aS a3;simp only[SX,q3,c2];by_cases b1:(aZ s o.c).op.k=9;case neg=>have d:=bq b1;simp only[SX,d,am];exact bad λm=>b1 m.1
 have d1:=aS b1;by_cases b2:(aZ s o.c).co<0
 ·have d:=aS b2;simp only[SX,d1,Xc,d,am];exact bad λm=>by have:=m.2.1;omega
 have d2:=bq b2;by_cases b3:(aZ s o.c).rp.er=0;case neg=>have d:=bq b3;simp only[SX,d1,Xc,d2,Y3,d,am];exact bad λm=>b3 m.2.2.1
 have d3:=aS b3;cases b4:o.e with
 |true=>simp only[SX,d1,Xc,d2,Y3,d3,bf,lpe,b4,aI,am];exact bad λm=>by have:=m.2.2.2.1;rw[b4]at this;cases this
 |false=>
 by_cases b5:x.en.ga<0
 ·have d:=aS b5;simp only[SX,d1,Xc,d2,Y3,d3,bf,lpe,b4,e3,d,aI,am];exact bad λm=>by have:=m.2.2.2.2.2.2.2.1;omega
 have d5:=bq b5;by_cases b6:8<=x.en.ga
 ·have d:=aS b6;simp only[SX,d1,Xc,d2,Y3,d3,bf,lpe,b4,e3,d5,d,aI,am];exact bad λm=>by have:=m.2.2.2.2.2.2.2.2.1;omega
 have d6:=bq b6;by_cases b7:x.en.ti<0
 ·have d:=aS b7;simp only[SX,d1,Xc,d2,Y3,d3,bf,lpe,b4,e3,d5,d6,e4,d,aI,am];exact bad λm=>by have:=m.2.2.2.2.2.2.2.2.2;omega
 have d7:=bq b7;have hm:CC (aZ s o.c) o x.en:=⟨b1,by omega,b3,b4,a1,a2,a3,by omega,by omega,by omega⟩;have he:cY v s x=0:=by rw[hE,ax hm]
 simp only[SX,d1,Xc,d2,Y3,d3,bf,lpe,b4,e3,d5,d6,e4,d7,aI,sB,am];refine⟨by rw[he],h7.le,by rw[AW.cT];omega,λ_=>⟨cv,bo,pb,?_⟩⟩;have er:rN s i x={s with of:=λw=>if w=x.wk then some ⟨o.c,o.s,true⟩else s.of w}:=by unfold rN;rw[b8,ho];simp only[ay (show¬x.k=5 by omega),ax hk]
 rw[er];exact h7
end
abbrev qT(v:cA)(sv ev:ae):List ae:=[.af v.sh,.af v.pq,.af v.pp,sv,ev]
abbrev pz(v:cA)(sv ev:ae):ae:=.agg (qT v sv ev).toArray
def K3(v:cA)(sv ev:ae)(W:AW):cD (pz v sv ev) W=some (cr W.next,W.add (.cells (qT v sv ev))):=gD _
structure KK (W:AW) (v:cA) (sv ev:ae) (l:List de):Prop where
 az:fJ W sv v.az
 small:v.az.length<1000
 rows:∀s∈v.az,s.rows.length<1000
 GD:Hg W ev l
def KK.mono{W W':AW}{v:cA}{sv ev:ae}{l:List de}(h:KK W v sv ev l)(a8:Le W W'):KK W' v sv ev l:=⟨h.az.mono a8,h.small,h.rows,h.GD.mono a8⟩
def ak1(W:AW):oe Tryz.prog 91 none W=some (.map (some W.next),W.add (.map [] 0)):=rfl
def al7(W:AW):oe Tryz.prog 92 none W=some (.map (some W.next),W.add (.map [] 0)):=rfl
def Lq:gE.all Eng.one=true:=rfl
def ZV(W:AW):aY Tryz.prog 110 W=some (cr W.next,W.add (.cells [.nilFunc,.nilFunc,.nilFunc,.nilFunc,.nilFunc,.nilFunc,.nilFunc])):=aJ (by kernel_rfl) rfl
def aeG(W:AW):bD Tryz.prog 110 [(0,.nilFunc),(1,.func (.func 48) #[] #[]),(2,.func (.func 49) #[] #[]),(3,.func (.func 50) #[] #[]),(4,.func (.func 51) #[] #[]),(5,.func (.func 52) #[] #[]),(6,.func (.func 53) #[] #[])] W=some (.agg gE.toArray,W):=aJ (by kernel_rfl) rfl
def aio(x:ae)(W:AW):iV Tryz.prog 110 x W=bA 7 x W:=by kernel_rfl
def anJ(v:cA)(sv ev:ae)(a b:Nat)(W:AW):bD Tryz.prog 94 [(0,pz v sv ev),(2,.map (some a)),(3,.map (some b)),(5,.af (-1))] W=some (.agg (Eo v sv ev (.slice none 0 0) a b 0 (-1) 0).toArray,W):=aJ (by kernel_rfl) rfl
def Zx(W:AW):bP 7 (cr W.next) (.agg gE.toArray) (W.add (.cells [.nilFunc,.nilFunc,.nilFunc,.nilFunc,.nilFunc,.nilFunc,.nilFunc]))=some (ag,W.add (.cells gE)):=by have:=ov (n:=7) (vs:=gE.toArray) (AW.aT W (.cells [.nilFunc,.nilFunc,.nilFunc,.nilFunc,.nilFunc,.nilFunc,.nilFunc])) rfl rfl Lq;rwa [gt]at this
def Tm(W:AW):bm (.func (.func 34) #[] #[]) [] W=some (.agg gE.toArray,W.add (.cells gE)):=by
 have h:rW bm W=some (.agg gE.toArray,W.add (.cells gE)):=by unfold rW;have g:(W.add (.cells gE)).get W.next=some (.cells gE):=AW.aT _ _;have l7:bA 7 (cr W.next) (W.add (.cells gE))=some (.agg gE.toArray,W.add (.cells gE)):=eh (bk g) rfl;simp only[SX,ZV,aeG,Zx,B5,aio,l7,bp]
 have h2:=Bf h;rw[h2];unfold gc;rw[ay (by rintro⟨e,-⟩;have e2:(bC (Value.agg gE.toArray)&& !isU (Value.agg gE.toArray))=true:=e;rw[show bC (Value.agg gE.toArray)=false from rfl,kP]at e2;cases e2)]
section
variable {V U:AW} {v:cA} {sv ev cv:ae} {s:RS} {l:List de} {i:Nat} {bo:Option Nat} {pb:Int->Nat} {x:de}
def Zf(hG:GW V)(h:iy V U v sv ev s i cv bo pb)(hI:kZ s)(hs:fJ V sv v.az)(hv:v.az.length<1000)(hk:1<=x.k/\x.k<=6)(hn:eX s x=0):
 ∃f U',(aK (.pointer (some ⟨V.next+4,x.k.toNat,none⟩)) U=some (f,U))/\bm f [cr (V.next+2),AT x] U=some (.af (cY v s x),U')/\s8 V U U' v sv ev s i x:=by
 by_cases c1:x.k=1
 ·obtain⟨U',k1,k2⟩:=Q0 hG h hI c1;exact⟨_,U',by rw[c1];exact eQ h.r rfl,k1,k2⟩
 unfold eX at hn;rw[ay c1]at hn;cases ho:s.of x.wk with
 |none=>rw[ho]at hn;exact absurd (show(4:Int)=0 from hn) (by decide)
 |some o=>
  rcases(by omega:x.k=2\/x.k=3\/x.k=4\/x.k=5\/x.k=6)with c|c|c|c|c
  ·obtain⟨U',k1,k2⟩:=Y5 hG h hI ho hs hv c;exact⟨_,U',by rw[c];exact eQ h.r rfl,k1,k2⟩
  ·obtain⟨U',k1,k2⟩:=Pk hG h hI ho hs hv c;exact⟨_,U',by rw[c];exact eQ h.r rfl,k1,k2⟩
  ·obtain⟨U',k1,k2⟩:=Yj hG h hI ho hs hv c;exact⟨_,U',by rw[c];exact eQ h.r rfl,k1,k2⟩
  ·obtain⟨U',k1,k2⟩:=RW hG h hI ho hs hv c;exact⟨_,U',by rw[c];exact eQ h.r rfl,k1,k2⟩
  ·obtain⟨U',k1,k2⟩:=VG h hI ho c;exact⟨_,U',by rw[c];exact eQ h.r rfl,k1,k2⟩
end
def kZ.tn{s:RS}(h:kZ s)(x:de):kZ (xx s x):=⟨h.ids,h.of,h.len,h.wk,h.steps⟩
def GnA(W:AW)(v:cA)(sv ev:ae)(l:List de)(q:ae)(W':AW):Prop:=∃a e:Int,qW v l a e/\Le W W'/\
 ((e≠0/\q=.tuple #[.pointer none,.af a,.af e])\/(e=0/\∃(s:RS) (V:AW) (cv:ae) (bo:Option Nat) (pb:Int->Nat) (t:Int),fQ v l l.length s/\q=.tuple #[cr (V.next+2),.af 0,.af 0]/\Le W V/\iy V W' v sv ev s t cv bo pb))
section
variable {W V:AW} {v:cA} {sv ev:ae} {l:List de} {ρ:Type}
def KH{R:ak.Fr}{U:AW}{K:LT->Option ρ}{G:ρ->Prop}{cv0:ae}{bo0:Option Nat}{pb0:Int->Nat}(hG:GW V)(hr:Hg W ev l)(hz:Le W V)(hs:fJ V sv v.az)(hv:v.az.length<1000)(hl:l.length<=2000)
 (h:iy V U v sv ev RS.init 0 cv0 bo0 pb0)(r7:R 7=cr (V.next+2))(r8:R 8=cr (V.next+4))(dT:R 35=ev)(dU:R 36=.af (l.length:Int))(ez:R 37=.af 0)
 (hK0:∀R' U' s cv bo pb t,fQ v l l.length s->iy V U' v sv ev s t cv bo pb->R' 7=cr (V.next+2)->Ok (K (.exit 0,R',U')) G)
 (hK1:∀R' U' k s x,fQ v l k s->l[k]? =some x->sd v s x≠0->Le V U'->R' 2=.pointer none->R' 3=.af (k:Int)->R' 4=.af (sd v s x)->Ok (K (.ret,R',U')) G):
 Ok (ah (cW (kU bm) R U) K) G:=by
 refine bY l.length (by omega) (λi R U=>R 7=cr (V.next+2)/\R 8=cr (V.next+4)/\R 35=ev/\R 36=.af (l.length:Int)/\R 37=.af (i:Int)/\∃s cv bo pb t,fQ v l i s/\iy V U v sv ev s t cv bo pb)
  (λr=>(r.1=.exit 0/\r.2.1 7=cr (V.next+2)/\∃s cv bo pb t,fQ v l l.length s/\iy V r.2.2 v sv ev s t cv bo pb)\/(r.1=.ret/\Le V r.2.2/\∃k s x,fQ v l k s/\l[k]? =some x/\sd v s x≠0/\r.2.1 2=.pointer none/\r.2.1 3=.af (k:Int)/\r.2.1 4=.af (sd v s x)))
  ⟨r7,r8,dT,dU,ez,_,_,_,_,_,.zero,h⟩ ?_ ?_ ?_
 ·rintro i R U hi ⟨r7,r8,dT,dU,ez,s,cv,bo,pb,t,eE,h⟩;unfold kU;have t1:decide ((i:Int)<(l.length:Int))=true:=jr;have t2:=λW'=>cQ W' i 1
  have e3:((i+1:Nat):Int)=(i:Int)+1:=by omega
  obtain⟨p,p1,p2⟩:=hr.get hi;have hx:l[i]? =some l[i]:=cL hi;generalize l[i]=x at *;have hI:=eE.inv;have WW:=h.nx;obtain⟨U1,jO⟩:∃U1,U1=U.add (.cells (fe x)):=⟨_,rfl⟩;have l1:Le U U1:=by rw[jO];exact(Le.refl _).add _
  have n1:U1.next=U.next+1:=by rw[jO];rfl
  have hb:U1.get U.next=some (.cells (fe x)):=by rw[jO];exact AW.aT _ _
  have pt:=NO x U;rw[<-jO]at pt;have h1:=h.mono l1;have ah8:bP 1 (.pointer (some ⟨V.next+2,10,none⟩)) (.af (i:Int)) U1=some (ag,U1.put (V.next+2) (.cells (Eo v sv ev cv V.next (V.next+1) s.tn s.st i))):=by rw[pP,iU h1.w];rfl
  have h2:iy V (U1.put (V.next+2) (.cells (Eo v sv ev cv V.next (V.next+1) s.tn s.st i))) v sv ev s i cv bo pb:=h1.put s.tn s.st i;obtain⟨U2,j7⟩:∃U2,U2=U1.put (V.next+2) (.cells (Eo v sv ev cv V.next (V.next+1) s.tn s.st i)):=⟨_,rfl⟩;rw[<-j7]at ah8 h2;have n2:U2.next=U1.next:=by rw[j7];rfl
  have iW:U2.get U.next=some (.cells (fe x)):=by rw[j7];exact(AW.aE _ _ (by omega)).trans hb
  obtain⟨U3,k1,k2,k3,k4,k5⟩:=Ni h2 hI x;have EU:U3.get U.next=some (.cells (fe x)):=(k4 _ (by omega) (by omega)).trans iW;have Ly:=Mr v s x;have hC:AM s x=if dX s x≠0 then dX s x else eX s x:=rfl
  simp only[SX,r7,dT,dU,ez,t1,p1,p2 _ (hz.trans h.le),Yg,pt,bf,aI,ah8,mp iW,k1];by_cases c1:AM s x=0;case neg=>
   have d1:=bq c1;have he:sd v s x=AM s x:=by
    rw[Ly,hC];by_cases c:dX s x≠0
    ·rw[ax c,ax c]
    ·rw[ay c,ay c];have:eX s x≠0:=λe=>c1 (by rw[hC,ay c];exact e)
     rw[ax this]
   simp only[SX,d1];unfold iE;simp only[SX,d1,am];exact .inr ⟨by simp,.inr ⟨aA,k2,i,s,x,eE,hx,by rw[he];exact c1,rfl,rfl,by rw[he];rfl⟩⟩
  have d1:=aS c1;have hh:dX s x=0:=by
   by_cases c:dX s x=0
   ·exact c
   ·rw[hC,ax c]at c1;exact absurd c1 c
  have hn:eX s x=0:=by rw[hC,ay (by simpa using hh)]at c1;exact c1
  have he:sd v s x=cY v s x:=by rw[Ly,ay (by simpa using hh),ay (by simpa using hn)]
  have hk:=(sQ hh).1;obtain⟨f,U4,f1,f2,f3,f4,f5⟩:=Zf hG (k5 hh) (hI.tn x) hs hv hk (by exact hn);rw[S7]at f2 f5;have ix:∀W',Gt 7 1 (cr (V.next+4)) (.af x.k) W'=some (.pointer (some ⟨V.next+4,x.k.toNat,none⟩),W'):=λW'=>by have:=sJ (len:=7) (z:=1) (b:=V.next+4) (o:=0) (i:=x.k.toNat) (k:=.i64) (W:=W') (by omega);rw[show((x.k.toNat:Nat):Int)=x.k by omega,aI,ko]at this;exact this
  simp only[SX,d1,pa EU,r8,ix,f1,mp EU,f2];unfold iE;by_cases c2:cY v s x=0
  ·have d2:=aS c2;obtain⟨lN,bo',Lg,f6⟩:=f5 c2;simp only[SX,d2,t2,am];refine .inl ⟨aA,r7,r8,dT,dU,by rw[e3];rfl,_,lN,bo',Lg,i,.succ eE hx (by rw[he];exact c2),?_⟩;rw[Uf hn];exact f6
  ·have d2:=bq c2;simp only[SX,d2,am];exact .inr ⟨by simp,.inr ⟨aA,f3,i,s,x,eE,hx,by rw[he];exact c2,rfl,rfl,by rw[he];rfl⟩⟩
 ·rintro R U ⟨r7,r8,dT,dU,ez,s,cv,bo,pb,t,eE,h⟩;unfold kU;have t1:decide ((l.length:Int)<(l.length:Int))=false:=dS;simp only[SX,dU,ez,t1,am];exact⟨by simp,.inl ⟨aA,r7,s,cv,bo,pb,t,eE,h⟩⟩
 ·rintro⟨e,R,U⟩ (⟨rfl,q7,s,cv,bo,pb,t,h1,h2⟩|⟨rfl,h0,k,s,x,h1,h2,h3,h4,h5,h6⟩)
  ·exact hK0 R U s cv bo pb t h1 h2 q7
  ·exact hK1 R U k s x h1 h2 h3 h0 h4 h5 h6
def Ye(hG:GW W)(h:KK W v sv ev l):∃q W',bm (.func (.func 24) #[] #[]) [pz v sv ev] W=some (q,W')/\GnA W v sv ev l q W':=by
 have oK:Ok (uw bm (pz v sv ev) W) λr=>GnA W v sv ev l r.1 r.2:=by
  unfold uw;obtain⟨V,hV⟩:∃V,V=W.add (.cells (qT v sv ev)):=⟨_,rfl⟩;have a8:Le W V:=by rw[hV];exact(Le.refl _).add _
  have g0:V.get W.next=some (.cells (qT v sv ev)):=by rw[hV];exact AW.aT _ _
  have bx:=K3 v sv ev W;rw[<-hV]at bx;have nV:V.next=W.next+1:=by rw[hV];rfl
  have l4:bA 4 (cr W.next) V=some (fc v sv,V):=eh (bk g0) rfl;have l5:bA 5 (cr W.next) V=some (pz v sv ev,V):=eh (bk g0) rfl;have Sj:aK (.pointer (some ⟨W.next,4,none⟩)) V=some (ev,V):=eQ g0 rfl;have ck:=pB (h.az.mono a8) h.small;by_cases c1:(fp v).2=0;case neg=>have d1:=bq c1;simp only[SX,bx,aI,l4,ck,d1,am];exact⟨-1,_,.ZY c1,a8,.inl ⟨c1,rfl⟩⟩
  have d1:=aS c1;have ln:∀W',aB Tryz.prog .len #[25] 3 #[false] [ev] W'=some (.af (l.length:Int),W'):=λW'=>Row.len h.GD qK W' 3 #[false]
  by_cases c2:2000<l.length
  ·have d2:decide ((2000:Int)<(l.length:Int))=true:=jr;simp only[SX,bx,aI,l4,ck,d1,Sj,ln,d2,am];exact⟨-1,3,.len c1 c2,a8,.inl ⟨by decide,rfl⟩⟩
  have d2:decide ((2000:Int)<(l.length:Int))=false:=dS;obtain⟨U1,jO⟩:∃U1,U1=V.add (.map [] 0):=⟨_,rfl⟩;have n1:U1.next=V.next+1:=by rw[jO];rfl
  obtain⟨U2,j7⟩:∃U2,U2=U1.add (.map [] 0):=⟨_,rfl⟩;have n2:U2.next=V.next+2:=by rw[j7,AW.aG,n1]
  obtain⟨U3,ED⟩:∃U3,U3=U2.add (.cells (Eo v sv ev (.slice none 0 0) V.next (V.next+1) 0 (-1) 0)):=⟨_,rfl⟩;have n3:U3.next=V.next+3:=by rw[ED,AW.aG,n2]
  obtain⟨U4,ME⟩:∃U4,U4=U3.add (.cells gE):=⟨_,rfl⟩;have n4:U4.next=V.next+4:=by rw[ME,AW.aG,n3]
  obtain⟨U5,Lk⟩:∃U5,U5=U4.add (.cells gE):=⟨_,rfl⟩;have n5:U5.next=V.next+5:=by rw[Lk,AW.aG,n4]
  have q1:Le V U1:=by rw[jO];exact(Le.refl _).add _
  have q2:Le U1 U2:=by rw[j7];exact(Le.refl _).add _
  have q3:Le U2 U3:=by rw[ED];exact(Le.refl _).add _
  have q4:Le U3 U4:=by rw[ME];exact(Le.refl _).add _
  have q5:Le U4 U5:=by rw[Lk];exact(Le.refl _).add _
  have m1:oe Tryz.prog 91 none V=some (.map (some V.next),U1):=by rw[ak1,jO]
  have m2:oe Tryz.prog 92 none U1=some (.map (some (V.next+1)),U2):=by rw[al7,j7,n1]
  have m3:cD (.agg (Eo v sv ev (.slice none 0 0) V.next (V.next+1) 0 (-1) 0).toArray) U2=some (cr (V.next+2),U3):=by rw[ED,<-n2];exact gD _
  have m4:=Tm U3;rw[<-ME]at m4;have m5:=ZV U4;have m6:=Zx U4;rw[<-Lk]at m6;rw[n4]at m5 m6;have M0:qP U5 V.next (λk=>((RS.init).of k).map λ_=>cr 0) 0:=by
   have:qP U1 V.next (λ_=>none) 0:=by rw[jO];exact Ks
   exact this.dq ((((q2.trans q3).trans q4).trans q5).get _ (by omega))
  have M1:qP U5 (V.next+1) (λk=>((RS.init).lk k).map (Value.int .i64)) 0:=by
   have:qP U2 (V.next+1) (λ_=>none) 0:=by rw[j7,<-n1];exact Ks
   exact this.dq (((q3.trans q4).trans q5).get _ (by omega))
  have h5:iy V U5 v sv ev RS.init 0 (.slice none 0 0) none (λ_=>0):=by refine⟨(((q1.trans q2).trans q3).trans q4).trans q5,by omega,?_,by rw[Lk,<-n4];exact AW.aT _ _,.inl ⟨rfl,rfl,rfl⟩,⟨0,M0⟩,⟨0,M1⟩,λk o hk=>(by simp[RS.init]at hk),λB hB=>(by cases hB),λk k' o o' hk=>(by simp[RS.init]at hk)⟩;rw[(q4.trans q5).get _ (by omega),ED,<-n2];exact AW.aT _ _
  have le5:aK (.pointer (some ⟨V.next+2,4,none⟩)) U5=some (ev,U5):=eQ h5.w rfl;simp only[SX,bx,aI,l4,ck,d1,Sj,ln,d2,l5,m1,m2,anJ,m3,m4,m5,m6,bf,le5];refine KH (V:=V) (l:=l) (hG.mono a8) h.GD a8 (h.az.mono a8) h.small (by omega) h5 rfl rfl rfl rfl rfl ?_ ?_
  ·intro R' U' s cv bo pb t eE hw q7;simp only[SX,q7,am];exact⟨0,0,.ok c1 (by omega) eE,a8.trans hw.le,.inr ⟨rfl,s,V,cv,bo,pb,t,eE,rfl,a8,hw⟩⟩
  ·intro R' U' k s x eE hx he hw q2 q3 q4;simp only[SX,q2,q3,q4,am];exact⟨k,_,.bad c1 (by omega) eE hx he,a8.trans hw,.inl ⟨he,rfl⟩⟩
 refine qN (Q:=λq W'=>GnA W v sv ev l q W') oK D8 (λq W' ⟨a,e,h1,h2,h3⟩ a8 hp=>?_);rcases h3 with⟨he,rfl⟩|⟨rfl,s,V,cv,bo,pb,t,k1,rfl,k3,k4⟩
 ·exact⟨a,e,h1,.refl _,.inl ⟨he,rfl⟩⟩
 ·exfalso;simp[bC,eI,cG]at hp
end
section
variable {W:AW} {v:cA} {sv ev:ae} {l:List de}
def qq(v:cA)(sv ev:ae)(W:AW):∃V,cD (pz v sv ev) W=some (cr W.next,V)/\Le W V/\V.next=W.next+1/\V.get W.next=some (.cells (qT v sv ev)):=
 ⟨_,K3 v sv ev W,(Le.refl _).add _,rfl,AW.aT _ _⟩
def ee{U:AW}{b:Nat}(g:U.get b=some (.cells (qT v sv ev))):bA 5 (cr b) U=some (pz v sv ev,U):=eh (bk g) rfl
def tv(hG:GW W)(h:KK W v sv ev l):∃a e:Int,qW v l a e/\bm (.func (.func 8) #[] #[]) [pz v sv ev] W=some (.tuple #[.af a,.af e],W):=by
 obtain⟨V,bx,a8,nV,g0⟩:=qq v sv ev W;obtain⟨q,W',k1,a,e,hA,k2,k3⟩:=Ye (hG.mono a8) (h.mono a8);refine⟨a,e,hA,bT rfl ?_ Bd⟩;unfold yf;rcases k3 with⟨he,rfl⟩|⟨rfl,s,V',cv,bo,pb,t,eE,rfl,hz,hw⟩
 ·simp only[SX,bx,ee g0,k1,am];exact⟨aA,a8.trans k2⟩
 ·obtain⟨rfl,-⟩:=hA.E9;simp only[SX,bx,ee g0,k1,am];exact⟨aA,a8.trans k2⟩
end
abbrev bc:ae:=.slice none 0 0
def kQ(o:Option ei):List ae:=match o with
 |none=>[.af (-1),.af 0,.bool false]
 |some o=>[.af (o.c:Int),.af (o.s:Int),.bool o.e]
def fE(o:Option ei):(kQ o).length=3:=by cases o<;>rfl
def Ip(o:Option ei):(kQ o).all Eng.one=true:=by cases o<;>rfl
def ofC(f:Int->Option ei):List ae:=(List.range 65).flatMap λ(w:Nat)=>kQ (f w)
def x8(f:Int->Option ei):(ofC f).length=195:=by unfold ofC;rw[ch (λw=>fE _),sR]
def Y7(f:Int->Option ei):(ofC f).all Eng.one=true:=C5 (λw=>Ip _) _
def eV(v:cA)(sv ev cv:ae)(f:Int->Option ei)(lv:ae)(tn st:Int):List ae:=qT v sv ev++(cv::(ofC f++[lv,.af tn,.af st]))
abbrev uT(v:cA)(sv ev cv:ae)(f:Int->Option ei)(lv:ae)(tn st:Int):ae:=.agg (eV v sv ev cv f lv tn st).toArray
section
variable {v:cA} {sv ev cv lv:ae} {f g:Int->Option ei} {tn st:Int} {W:AW} {b:Nat}
def dL:(eV v sv ev cv f lv tn st).length=204:=by simp only[eV,cK,dE,oG,x8]
def YJ(h1:Eng.one sv=true)(h2:Eng.one ev=true)(h3:Eng.one cv=true)(h4:Eng.one lv=true):(eV v sv ev cv f lv tn st).all Eng.one=true:=by unfold eV;simp[List.all_append,fa,h1,h2,h3,h4,Y7,kA]
def rk(w:Nat)(hw:w<65):∃pre post,pre.length=6+w*3/\eV v sv ev cv f lv tn st=pre++(kQ (f w)++post)/\∀g:Int->Option ei,(∀k:Nat,k≠w->g k=f k)->eV v sv ev cv g lv tn st=pre++(kQ (g w)++post):=by
 have hr:List.range 65=List.range w++w::((List.range 65).drop (w+1)):=by
  have h1:(List.range 65).take w=List.range w:=by rw[List.take_range,o8 (by omega)]
  have h2:= @List.getElem_cons_drop _ (List.range 65) w (by rw[sR];exact hw);rw[List.getElem_range]at h2;rw[<-h1,h2,wK]
 have aji:∀(l:List Nat) (g:Int->Option ei),(∀k∈l,g (k:Int)=f k)->l.flatMap (λ(k:Nat)=>kQ (g k))=l.flatMap (λ(k:Nat)=>kQ (f k)):=λl g hg=>by rw[List.flatMap_def,List.flatMap_def];congr 1;exact List.map_congr_left λk hk=>by rw[hg k hk]
 generalize hq:(List.range 65).drop (w+1)=q at hr;have hqm:∀k∈q,k≠w:=λk hk=>by rw[<-hq]at hk;obtain⟨i,hi,rfl⟩:=vk hk;rw[List.getElem_drop,List.getElem_range];omega
 have key:∀g:Int->Option ei,(∀k:Nat,k≠w->g k=f k)->ofC g=(List.range w).flatMap (λ(k:Nat)=>kQ (f k))++(kQ (g w)++q.flatMap λ(k:Nat)=>kQ (f k)):=λg hg=>by unfold ofC;rw[hr,ge,iD,aji _ g λk hk=>hg k (by have:=pW.1 hk;omega),aji q g λk hk=>hg k (hqm k hk)]
 refine⟨qT v sv ev++(cv::(List.range w).flatMap (λ(k:Nat)=>kQ (f k))),q.flatMap (λ(k:Nat)=>kQ (f k))++[lv,.af tn,.af st],?_,?_,λg hg=>?_⟩
 ·have e:((List.range w).flatMap (λ(k:Nat)=>kQ (f k))).length=w*3:=by rw[ch (λ(k:Nat)=>fE _),sR]
  simp only[cK,dE,oG,e];omega
 ·unfold eV;rw[key f λ_ _=>rfl];simp only[jQ,qj]
 ·unfold eV;rw[key g hg];simp only[jQ,qj]
def ado(w:Nat)(hw:w<65)(j:Nat)(hj:j<3):(eV v sv ev cv f lv tn st)[6+w*3+j]? =(kQ (f w))[j]? :=by obtain⟨pre,post,h1,h2,-⟩:=rk (v:=v) (sv:=sv) (ev:=ev) (cv:=cv) (f:=f) (lv:=lv) (tn:=tn) (st:=st) w hw;rw[h2,gb (by omega),tB (by rw[fE];omega)];congr 1;omega
def rq(j:Nat):(eV v sv ev cv f lv tn st)[201+j]? =[lv,Value.int .i64 tn,.af st][j]? :=by
 unfold eV;rw[gb (by show 5<=_;omega)];have:201+j-(qT v sv ev).length=(195+j)+1:=by show 201+j-5=_;omega
 rw[this,DA,gb (by rw[x8];omega),x8];congr 1;omega
def G1(j:Nat)(x:ae):(eV v sv ev cv f lv tn st).set (201+j) x=qT v sv ev++(cv::(ofC f++[lv,Value.int .i64 tn,.af st].set j x)):=by
 unfold eV;rw[ya _ _ (by show 5<=_;omega)];have:201+j-(qT v sv ev).length=(195+j)+1:=by show 201+j-5=_;omega
 rw[this,BE,ya _ _ (by rw[x8];omega),x8];congr 4;omega
def iF(h:W.get b=some (.cells (eV v sv ev cv f lv tn st))):bA 204 (cr b) W=some (uT v sv ev cv f lv tn st,W):=mh (bk h) dL
def YG(h:W.get b=some (.cells (eV v sv ev cv f lv tn st))):bA 4 (cr b) W=some (fc v sv,W):=eh (bk h) rfl
def NH(h:W.get b=some (.cells (eV v sv ev cv f lv tn st))):aK (.pointer (some ⟨b,4,none⟩)) W=some (ev,W):=eQ h rfl
def iw(h:W.get b=some (.cells (eV v sv ev cv f lv tn st))):aK (.pointer (some ⟨b,5,none⟩)) W=some (cv,W):=eQ h rfl
def zG(h:W.get b=some (.cells (eV v sv ev cv f lv tn st))):aK (.pointer (some ⟨b,201,none⟩)) W=some (lv,W):=eQ h (rq 0)
def abQ(h:W.get b=some (.cells (eV v sv ev cv f lv tn st))):aK (.pointer (some ⟨b,202,none⟩)) W=some (.af tn,W):=eQ h (rq 1)
def acU(h:W.get b=some (.cells (eV v sv ev cv f lv tn st))):aK (.pointer (some ⟨b,203,none⟩)) W=some (.af st,W):=eQ h (rq 2)
def Lp(h:W.get b=some (.cells (eV v sv ev cv f lv tn st))){w:Nat}(hw:w<65):bA 3 (.pointer (some ⟨b,6+w*3,none⟩)) W=some (.agg (kQ (f w)).toArray,W):=by
 obtain⟨pre,post,h1,h2,-⟩:=rk (v:=v) (sv:=sv) (ev:=ev) (cv:=cv) (f:=f) (lv:=lv) (tn:=tn) (st:=st) w hw;have e:((eV v sv ev cv f lv tn st).drop (6+w*3)).take 3=kQ (f w):=by rw[h2,<-h1,xS,<-fE (f w),uH]
 have:=eh (n:=3) (o:=6+w*3) (bk h) (by rw[e,fE]);rw[e]at this;exact this
def On(h:W.get b=some (.cells (eV v sv ev cv f lv tn st))){w:Nat}(hw:w<65){j:Nat}{x:ae}(hj:j<3)(hx:(kQ (f w))[j]? =some x):aK (.pointer (some ⟨b,6+w*3+j,none⟩)) W=some (x,W):=eQ h ((ado w hw j hj).trans hx)
def iY{cs:List ae}(h:W.get b=some (.cells cs))(hl:cs.length=204)(h1:Eng.one sv=true)(h2:Eng.one ev=true)(h3:Eng.one cv=true)(h4:Eng.one lv=true):bP 204 (cr b) (uT v sv ev cv f lv tn st) W=some (ag,W.put b (.cells (eV v sv ev cv f lv tn st))):=by have:=ov (n:=204) (vs:=(eV v sv ev cv f lv tn st).toArray) h hl (by rw[sy];exact dL) (YJ h1 h2 h3 h4);exact this
def Oe(h:W.get b=some (.cells (eV v sv ev cv f lv tn st))){x:ae}(h1:x.cells=#[x])(h2:Eng.one x=true):bP 1 (.pointer (some ⟨b,5,none⟩)) x W=some (ag,W.put b (.cells (eV v sv ev x f lv tn st))):=by rw[gx h1 h2,Bp h,bp,ax (by rw[dL];omega)];rfl
def O0(h:W.get b=some (.cells (eV v sv ev cv f lv tn st))){x:ae}(h1:x.cells=#[x])(h2:Eng.one x=true):bP 1 (.pointer (some ⟨b,201,none⟩)) x W=some (ag,W.put b (.cells (eV v sv ev cv f x tn st))):=by rw[gx h1 h2,Bp h,bp,ax (by rw[dL];omega),G1 0 x];rfl
def Yl(h:W.get b=some (.cells (eV v sv ev cv f lv tn st)))(n:Int):bP 1 (.pointer (some ⟨b,202,none⟩)) (.af n) W=some (ag,W.put b (.cells (eV v sv ev cv f lv n st))):=by rw[gx rfl rfl,Bp h,bp,ax (by rw[dL];omega),G1 1];rfl
def Xm(h:W.get b=some (.cells (eV v sv ev cv f lv tn st)))(n:Int):bP 1 (.pointer (some ⟨b,203,none⟩)) (.af n) W=some (ag,W.put b (.cells (eV v sv ev cv f lv tn n))):=by rw[gx rfl rfl,Bp h,bp,ax (by rw[dL];omega),G1 2];rfl
def OS(h:W.get b=some (.cells (eV v sv ev cv f lv tn st))){w:Nat}(hw:w<65)(o:Option ei):bP 3 (.pointer (some ⟨b,6+w*3,none⟩)) (.agg (kQ o).toArray) W=some (ag,W.put b (.cells (eV v sv ev cv (λk=>if k=(w:Int)then o else f k) lv tn st))):=by
 obtain⟨pre,post,h1,h2,h3⟩:=rk (v:=v) (sv:=sv) (ev:=ev) (cv:=cv) (f:=f) (lv:=lv) (tn:=tn) (st:=st) w hw;have h4:=h3 (λk=>if k=(w:Int)then o else f k) (λk hk=>by rw[b8]);rw[ax rfl]at h4;rw[h4];rw[h2]at h;have hs:(kQ o).toArray.size=3:=by rw[sy];exact fE o
 rw[tO (n:=3) (v:=.agg (kQ o).toArray) h (by show(kQ o).toArray.size=3;exact hs) (by rw[cK,cK,fE];show 6+w*3+(kQ o).length<=_;rw[fE];omega) (by show(kQ o).toArray.toList.all _=true;exact Ip o)];have:=ux pre (kQ (f w)) post (kQ o) 0 (by rw[fE,fE];omega);rw[cC,Ix (by rw[fE,fE]),h1]at this;exact cR (λc=>some (ag,W.put b (.cells c))) this
end
def Jo(v:cA)(c:Int)(h:1<=v.sh):0<=(eC v c).1/\(eC v c).1<v.sh+v.az.length:=by
 unfold eC;by_cases e:(sW v c).2.2=0
 ·obtain⟨-,h1,h2,-⟩:=oz e;rw[ax e];show 0<=v.sh+c/\v.sh+c<_;omega
 ·rw[ay e];show(0:Int)<=0/\(0:Int)<_;omega
def Fw(v:cA)(c:Int)(h:1<=v.sh):0<=(fG v c).1/\(fG v c).1<v.sh+v.az.length:=by
 unfold fG;by_cases e:(eN v c).2=0
 ·rw[ax e];have h1:=Int.emod_nonneg c (show v.sh≠0 by omega);have h2:=yc c (show 0<v.sh by omega);show 0<=c % v.sh/\c % v.sh<_;omega
 ·rw[ay e];show(0:Int)<=0/\(0:Int)<_;omega
def UX{v:cA}{o:qS}(hv:(fp v).2=0){k:Int}(h:k∈(bZ v o).1):0<=k/\k<v.sh+v.az.length:=by
 have hs:=gA hv;unfold bZ at h;rw[ax hv]at h;by_cases e:(jL o).2.2=0;case neg=>rw[ay e]at h;cases h
 rw[ax e]at h;have h':k∈fz v o.k (jL o).1 (jL o).2.1:=h;clear h;unfold fz at h';split at h'
 ·obtain⟨i,hi,rfl⟩:=kq.1 h';have:=pW.1 hi;omega
 split at h'
 ·unfold gM at h';split at h'
  ·have hm:k∈ws v.sh (sW v (jL o).2.1).1 (min (sW v (jL o).2.1).2.1 v.sh).toNat:=(List.mergeSort_perm _ _).mem_iff.1 h';obtain⟨i,-,rfl⟩:=kq.1 hm;have h1:=Int.emod_nonneg ((sW v (jL o).2.1).1+(i:Int)) (show v.sh≠0 by omega);have h2:=yc ((sW v (jL o).2.1).1+(i:Int)) (show 0<v.sh by omega);omega
  ·cases h'
 split at h'
 ·split at h'
  ·simp only[dz,List.not_mem_nil,or_false]at h';rcases h' with rfl|rfl
   ·exact Fw v _ hs.1
   ·exact Jo v _ hs.1
  ·cases h'
 split at h'
 ·split at h'
  ·simp only[dz,List.not_mem_nil,or_false]at h';subst h';exact Fw v _ hs.1
  ·cases h'
 split at h'
 ·split at h'
  ·simp only[dz,List.not_mem_nil,or_false]at h';subst h';exact Jo v _ hs.1
  ·cases h'
 ·cases h'
def Ku{l:List Int}{i:Nat}(h:i<l.length):l.getD i 0∈l:=by rw[iz,cL h];exact fb _
def Fj{v:cA}{o:qS}(hv:(fp v).2=0){i:Nat}{a k:Int}(h:iK v o i=((a,k),0))(ha:a=1\/a=3):0<=k/\k<v.sh+v.az.length:=by
 obtain⟨h1,h2⟩:=rB h;unfold iK at h;rw[ax h2,ax ⟨by omega,by omega⟩]at h;simp only[pA,and_true,oY]at h;unfold dJ at h;refine UX hv (o:=o) ?_;split at h
 ·rename_i hi;simp only[pA]at h;rw[<-h.2];exact Ku hi
 split at h
 ·simp only[pA]at h;omega
 ·rename_i h3 h4;simp only[pA]at h;rw[<-h.2];exact Ku (by omega)
def fQ.lks{v:cA}{l:List de}{k:Nat}{s:RS}(h:fQ v l k s):∀j id,s.lk j=some id->1<=id:=by
 induction h with
 |zero=>intro j id h;simp[RS.init]at h
 | @succ k s x eE hx he ih=>
  intro j id h;rw[Mr]at he;by_cases c1:dX s x=0;case neg=>rw[ax c1]at he;exact absurd he c1
  rw[ay (by simpa using c1)]at he;by_cases c2:eX s x=0;case neg=>rw[ax c2]at he;exact absurd he c2
  unfold H9 at h;by_cases k1:x.k=1
  ·simp only[ax k1]at h;exact ih j id h
  simp only[ay k1]at h;unfold eX at c2;rw[ay k1]at c2;cases ho:s.of x.wk with
  |none=>rw[ho]at h;exact ih j id h
  |some o=>
   rw[ho]at h c2;simp only at h c2;by_cases k5:x.k=5
   ·simp only[ax k5]at h;exact ih j id h
   simp only[ay k5]at h;by_cases k6:x.k=6
   ·simp only[ax k6]at h;exact ih j id h
   simp only[ay k6]at h;split at h
   ·split at h
    ·injection h with h;have hI:=eE.inv;have mr:=hI.of _ _ ho;have hid:=hI.ids o.c s.cl[o.c] (cL mr);by_cases e:(aZ s o.c).id=x.id
     ·rw[pD mr]at e;omega
     ·rw[ax e]at c2;exact absurd c2 (by decide)
    ·split at h
     ·cases h
     ·exact ih j id h
   ·exact ih j id h
def Ty(x:de):x=ij x<->((x.k=2\/x.k=4)\/x.lk=0)/\(x.k=1\/x.op=Ht)/\(x.k=3\/x.rp=wO)/\(x.k=6\/x.en=Ex):=by
 rw[de.mB];unfold ij;simp only[true_and];refine and_congr ?_ (and_congr ?_ (and_congr ?_ ?_))
 ·split
  ·rename_i h;exact⟨λ_=>.inl h,λ_=>rfl⟩
  ·rename_i h;exact⟨.inr,λe=>e.resolve_left h⟩
 ·split
  ·rename_i h;exact⟨λ_=>.inl h,λ_=>rfl⟩
  ·rename_i h;exact⟨.inr,λe=>e.resolve_left h⟩
 ·split
  ·rename_i h;exact⟨λ_=>.inl h,λ_=>rfl⟩
  ·rename_i h;exact⟨.inr,λe=>e.resolve_left h⟩
 ·split
  ·rename_i h;exact⟨λ_=>.inl h,λ_=>rfl⟩
  ·rename_i h;exact⟨.inr,λe=>e.resolve_left h⟩
open Classical in
def nj(x:de):Int:=if x.k<1\/6<x.k then 2 else if x≠ij x then 2 else 0
open Classical in
def PS(x:de)(W:AW):bm (.func (.func 57) #[] #[]) [AT x] W=some (.af (nj x),W):=by
 refine bT rfl ?_ Bi;unfold xQ;obtain⟨U,hU⟩:∃U,U=W.add (.cells (fe x)):=⟨_,rfl⟩;have a8:Le W U:=by rw[hU];exact(Le.refl _).add _
 have hb:U.get W.next=some (.cells (fe x)):=by rw[hU];exact AW.aT _ _
 have bx:=vP x W;rw[<-hU]at bx;have lk:=pa hb;by_cases c1:x.k<1
 ·have d:=aS c1;simp only[SX,bx,lk,d,am];exact⟨by unfold nj;rw[ax (.inl c1)],a8⟩
 have d1:=bq c1;by_cases c2:6<x.k
 ·have d:=aS c2;simp only[SX,bx,lk,d1,d,am];exact⟨by unfold nj;rw[ax (.inr c2)],a8⟩
 have d2:=bq c2;have lo:=tx hb;have lr:=yU hb;have ll:=qy hb;have lg:=DV hb;have hF:nj x=if x≠ij x then 2 else 0:=by unfold nj;rw[b8]
 have bad:x≠ij x->(Value.int .i64 2=.af (nj x))/\Le W U:=λh=>⟨by rw[hF,ax h],a8⟩
 have hbi:=Ty x;have fin:∀e:Int,(e=if x≠ij x then 2 else 0)->(Value.int .i64 e=.af (nj x))/\Le W U:=λe he=>⟨by rw[hF,<-he],a8⟩
 rcases(by omega:x.k=1\/x.k=2\/x.k=3\/x.k=4\/x.k=5\/x.k=6)with h|h|h|h|h|h<;>rw[h]at lk<;>
  by_cases p1:x.op=Ht<;>by_cases p2:x.lk=0<;>by_cases p3:x.rp=wO<;>by_cases p4:x.en=Ex<;>
  simp only[SX,bx,lk,wu2,Int.reduceLT,Int.reduceEq,aI,lo,aiz,af0,ll,lr,aeO,aij,lg,afI,aak,p1,p2,p3,p4,am]<;>
  refine fin _ ?_<;>simp[hbi,h,p1,p2,p3,p4]
def Uu(x:de)(W:AW):bm (.func (.func 58) #[] #[]) [AT x] W=some (.bool (nE x),W):=by
 refine bT rfl ?_ Ha;unfold FW;obtain⟨U,hU⟩:∃U,U=W.add (.cells (fe x)):=⟨_,rfl⟩;have a8:Le W U:=by rw[hU];exact(Le.refl _).add _
 have hb:U.get W.next=some (.cells (fe x)):=by rw[hU];exact AW.aT _ _
 have bx:=vP x W;rw[<-hU]at bx;have lk:=pa hb;unfold nE;by_cases c1:2<=x.k
 ·have d1:=aS c1;simp only[SX,bx,lk,d1,jK,am];exact⟨aA,a8⟩
 ·have d1:=bq c1;simp only[SX,bx,lk,d1,kP,am];exact⟨aA,a8⟩
def row_one{α:Type}{W:AW}{z:Nat}{at_:List ae->Nat->α->Prop}{v:ae}{l:List α}(h:Row W z at_ v l):Eng.one v=true:=by
 obtain⟨a,c,rfl,h⟩:=h;rcases h with h|⟨b,o,cs,rfl,-⟩
 ·cases a<;>rfl
 ·rfl
def wM{α:Type}{W:AW}{z:Nat}{f:α->List ae}{v:ae}{l:List α}(hf:∀a,(f a).length=z)(h:Rd W z f v l):Row W z (jD z f) v l:=by
 obtain⟨a,c,rfl,h⟩:=h;refine⟨a,c,rfl,?_⟩;rcases h with h|⟨b,o,cs,rfl,h2,h3,h4⟩
 ·exact .inl h
 ·refine .inr ⟨b,o,cs,rfl,h2,h3,λi hi=>?_⟩;show(cs.drop (o+i*z)).take z=f l[i];have e1:((cs.drop o).take (l.length*z)).drop (i*z)=(l.drop i).flatMap f:=by rw[h4,Pt hf]
  rw[xd,nL]at e1;have e2:(l.drop i).flatMap f=f l[i]++(l.drop (i+1)).flatMap f:=by rw[rT hi,iD]
  have e3:=cR (List.take z) e1;have hz:z<=l.length*z-i*z:=by rw[<-Nat.sub_mul];exact Nat.le_mul_of_pos_left z (by omega)
  rw[uY,o8 hz,e2,<-hf l[i],uH]at e3;rw[hf]at e3;exact e3
def Gc(s:RS)(n:Nat):List Int:=(List.range n).map λ(k:Nat)=>(s.lk k).getD 0
def pN(s:RS)(n:Nat):(Gc s n).length=n:=by simp[Gc]
def qi(v:cA):Nat:=(v.sh+v.az.length).toNat
structure M4 (U:AW) (v:cA) (s:RS) (cv lv:ae):Prop where
 c:Rd U 26 gq cv s.cl
 l:Rd U 1 jE lv (Gc s (qi v))
def M4.mono{U U':AW}{v:cA}{s:RS}{cv lv:ae}(h:M4 U v s cv lv)(a8:Le U U'):M4 U' v s cv lv:=⟨h.c.dq a8,h.l.dq a8⟩
def ff{α:Type}{W:AW}{z:Nat}{f:α->List ae}{v:ae}{l:List α}(h:Rd W z f v l):v.cells=#[v]/\Eng.one v=true:=by
 obtain⟨a,c,rfl,h⟩:=h;rcases h with h|⟨b,o,cs,rfl,-⟩
 ·cases a<;>exact⟨rfl,rfl⟩
 ·exact⟨rfl,rfl⟩
def zf:Int->Option ei:=λ_=>some ⟨0,0,false⟩
def eZ:cA:=⟨0,0,0,[]⟩
def Im(W:AW):aY Tryz.prog 88 W=some (cr W.next,W.add (.cells (eV eZ bc bc bc zf bc 0 0))):=aJ (by kernel_rfl) rfl
def amo(v:cA)(sv ev:ae)(W:AW):bD Tryz.prog 88 [(0,pz v sv ev),(5,.af (-1))] W=some (uT v sv ev bc zf bc 0 (-1),W):=aJ (by kernel_rfl) rfl
def Wz(W:AW):bD Tryz.prog 88 [] W=some (uT eZ bc bc bc zf bc 0 0,W):=aJ (by kernel_rfl) rfl
def RY(x:ae)(W:AW):iV Tryz.prog 88 x W=bA 204 x W:=by kernel_rfl
def b64:(Tryz.prog.info? 3).map (·.bytes)=some 8:=by kernel_rfl
def t64:lX Tryz.prog 3=some 1:=by kernel_rfl
def NL(n:Nat):Bt [.af 0] n=List.replicate n (.af 0):=by
 induction n with
 |zero=>rfl
 |succ n ih=>show [Value.int .i64 0]++Bt [.af 0] n=_;rw[ih,List.replicate_succ];rfl
def ams{n:Nat}(h:n<=10000)(W:AW):oR Tryz.prog 64 (.af (n:Int)) (.af (n:Int)) W=some (.slice (some ⟨W.next,0,none⟩) n n,W.add (.cells (List.replicate n (.af 0)))):=by
 show oR Tryz.prog 64 (.af (Int.ofNat n)) (.af (Int.ofNat n)) W=_;unfold oR;have e:=IJ (z:=.af 0) (len:=n) (n:=1) rfl;have e2:(jp (.af 0) (n*1)).toList=List.replicate n (.af 0):=by rw[e];exact NL n
 have e3:(List.replicate n (Value.int .i64 0)).all cG=true:=by rw[<-NL];exact Cs _ _ rfl n
 simp only[Tryz.underlying64,t64,tz3,b64];rw[e2,ax ⟨aP _,by omega,by omega,e3⟩]
def tV(l:List Int):l.flatMap jE=l.map (Value.int .i64):=by
 induction l with
 |nil=>rfl
 |cons a l ih=>rw[iD,jd,ih];rfl
section
variable {W:AW} {v:cA} {sv ev:ae} {l:List de}
def Wv(hs:fJ W sv v.az)(h2:Eng.one ev=true)(hv:v.az.length<1000)(IK:1<=v.sh/\v.sh<=16):∃lv W',bm (.func (.func 37) #[] #[]) [pz v sv ev] W=some (uT v sv ev bc (RS.init).of lv 0 (-1),W')/\Le W W'/\M4 W' v RS.init bc lv/\∀a k m,lv=.slice (some a) k m->W.next<=a.block:=by
 have h1:Eng.one sv=true:=row_one hs.1;have oK:Ok (ub bm (pz v sv ev) W) λr=>∃lv,r.1=uT v sv ev bc (RS.init).of lv 0 (-1)/\Le W r.2/\M4 r.2 v RS.init bc lv/\∀a k m,lv=.slice (some a) k m->W.next<=a.block:=by
  unfold ub;obtain⟨V,bx,a8,nV,g0⟩:=qq v sv ev W;obtain⟨V1,wL⟩:∃V1,V1=V.add (.cells (eV eZ bc bc bc zf bc 0 0)):=⟨_,rfl⟩;have l1:Le V V1:=by rw[wL];exact(Le.refl _).add _
  have n1:V1.next=V.next+1:=by rw[wL];rfl
  have g1:V1.get V.next=some (.cells (eV eZ bc bc bc zf bc 0 0)):=by rw[wL];exact AW.aT _ _
  have a1:=Im V;rw[<-wL]at a1;have g01:V1.get W.next=some (.cells (qT v sv ev)):=(l1.get _ (by omega)).trans g0;obtain⟨V2,pG⟩:∃V2,V2=V1.add (.cells (eV v sv ev bc zf bc 0 (-1))):=⟨_,rfl⟩;have n2:V2.next=V1.next+1:=by rw[pG];rfl
  have l2:Le V1 V2:=by rw[pG];exact(Le.refl _).add _
  have a2:=Im V1;have p2:bP 204 (cr V1.next) (uT v sv ev bc zf bc 0 (-1)) (V1.add (.cells (eV eZ bc bc bc zf bc 0 0)))=some (ag,V2):=by have:=iY (sv:=sv) (v:=v) (ev:=ev) (cv:=bc) (lv:=bc) (f:=zf) (tn:=0) (st:= -1) (AW.aT V1 (.cells (eV eZ bc bc bc zf bc 0 0))) dL h1 h2 rfl rfl;rw[this,gt,<-pG]
  have g2:V2.get V1.next=some (.cells (eV v sv ev bc zf bc 0 (-1))):=by rw[pG];exact AW.aT _ _
  simp only[SX,bx,a1,ee g01,amo,a2,p2];refine bY 65 (by omega) (λi R U=>R 1=cr W.next/\R 2=cr V.next/\R 3=cr V1.next/\R 4=.af (i:Int)/\Le V1 U/\V2.next<=U.next/\U.get V1.next=some (.cells (eV v sv ev bc (λw=>if 0<=w/\w<(i:Int)then none else some ⟨0,0,false⟩) bc 0 (-1))))
   (λr=>r.1=.exit 0/\r.2.1 1=cr W.next/\r.2.1 2=cr V.next/\r.2.1 3=cr V1.next/\Le V1 r.2.2/\V2.next<=r.2.2.next/\r.2.2.get V1.next=some (.cells (eV v sv ev bc (λw=>if 0<=w/\w<(65:Int)then none else some ⟨0,0,false⟩) bc 0 (-1))))
   ⟨rfl,rfl,rfl,rfl,l2,aP _,?_⟩ ?_ ?_ ?_
  ·have e:(λw:Int=>if 0<=w/\w<((0:Nat):Int)then(none:Option ei)else some ⟨0,0,false⟩)=zf:=by funext w;rw[b8];rfl
   rw[e];exact g2
  ·rintro i R U hi ⟨r1,r2,r3,r4,r5,r6,r7⟩;unfold oM;have t1:decide ((i:Int)<65)=true:=jr;have t2:=λW'=>cQ W' i 1
   have e3:((i+1:Nat):Int)=(i:Int)+1:=by omega
   have ix:=λW'=>sJ (len:=65) (z:=3) (b:=V1.next) (o:=6) (i:=i) (k:=.i64) (W:=W') (by omega)
   have st:bP 1 (.pointer (some ⟨V1.next,6+i*3,none⟩)) (.af (-1)) U=some (ag,U.put V1.next (.cells (eV v sv ev bc (λw=>if 0<=w/\w<((i+1:Nat):Int)then none else some ⟨0,0,false⟩) bc 0 (-1)))):=by
    obtain⟨pre,post,q1,q2,q3⟩:=rk (v:=v) (sv:=sv) (ev:=ev) (cv:=bc) (f:=λw=>if 0<=w/\w<(i:Int)then none else some ⟨0,0,false⟩) (lv:=bc) (tn:=0) (st:= -1) i hi;have q4:=q3 (λw=>if 0<=w/\w<((i+1:Nat):Int)then none else some ⟨0,0,false⟩) (λk hk=>by
     by_cases e:k<i
     ·rw[ou,ou]
     ·rw[b8,b8]);rw[ou]at q4;rw[b8]at q2;rw[q4];rw[q2]at r7;have q5:=tO (n:=1) (o:=6+i*3) (v:=.af (-1)) r7 rfl (by rw[cK,cK,fE];show 6+i*3+1<=_;omega) rfl;rw[q5];have q6:=ux pre (kQ (some ⟨0,0,false⟩)) post [.af (-1)] 0 (by rw[fE];show 0+1<=3;omega);rw[cC,q1]at q6;exact cR (λc=>some (ag,U.put V1.next (.cells c))) q6
   simp only[SX,r3,r4,t1,aI,cC,ix,st,t2,am];exact .inl ⟨aA,r1,r2,r3,by rw[e3];rfl,r5.put (aP _) _,by rw[AW.cT];exact r6,AW.bz _ _ _⟩
  ·rintro R U ⟨r1,r2,r3,r4,r5,r6,r7⟩;unfold oM;have t1:decide (((65:Nat):Int)<65)=false:=dS;simp only[SX,r4,t1,am];exact⟨by simp,aA,r1,r2,r3,r5,r6,r7⟩
  ·rintro⟨e,R,U⟩ ⟨rfl,r1,r2,r3,r5,r6,r7⟩;have r1:R 1=cr W.next:=r1;have r2:R 2=cr V.next:=r2;have r3:R 3=cr V1.next:=r3;have r5:Le V1 U:=r5;have r6:V2.next<=U.next:=r6;have gr:U.get W.next=some (.cells (qT v sv ev)):=(r5.get _ (by omega)).trans g01;have gz:U.get V.next=some (.cells (eV eZ bc bc bc zf bc 0 0)):=(r5.get _ (by omega)).trans g1;have lsh:aK (cr W.next) U=some (.af v.sh,U):=eQ gr rfl;have akE:aK (.pointer (some ⟨W.next,3,none⟩)) U=some (sv,U):=eQ gr rfl;have ln:=λW'=>Row.len hs.1 Is W' 3 #[false]
   have ad:=λW'=>ud W' v.sh (v.az.length:Int)
   have en:v.sh+(v.az.length:Int)=((qi v:Nat):Int):=by unfold qi;omega
   have hn:qi v<=10000:=by unfold qi;omega
   obtain⟨U1,jO⟩:∃U1,U1=U.add (.cells (List.replicate (qi v) (.af 0))):=⟨_,rfl⟩;have mk:=ams hn U;rw[<-jO]at mk;have lU:Le U U1:=by rw[jO];exact(Le.refl _).add _
   have nU:U1.next=U.next+1:=by rw[jO];rfl
   have gl:U1.get U.next=some (.cells (List.replicate (qi v) (.af 0))):=by rw[jO];exact AW.aT _ _
   have r7':=(lU.get _ (by omega)).trans r7;have s1:=O0 r7' (x:=.slice (some ⟨U.next,0,none⟩) (qi v) (qi v)) rfl rfl;have ef:eV v sv ev bc (λw=>if 0<=w/\w<(65:Int)then none else some ⟨0,0,false⟩) (.slice (some ⟨U.next,0,none⟩) (qi v) (qi v)) 0 (-1)=eV v sv ev bc (RS.init).of (.slice (some ⟨U.next,0,none⟩) (qi v) (qi v)) 0 (-1):=by unfold eV;congr 3
   rw[ef]at s1;obtain⟨U2,j7⟩:∃U2,U2=U1.put V1.next (.cells (eV v sv ev bc (RS.init).of (.slice (some ⟨U.next,0,none⟩) (qi v) (qi v)) 0 (-1))):=⟨_,rfl⟩;rw[<-j7]at s1;have g2':U2.get V1.next=some (.cells (eV v sv ev bc (RS.init).of (.slice (some ⟨U.next,0,none⟩) (qi v) (qi v)) 0 (-1))):=by rw[j7];exact AW.bz _ _ _
   have gz2:U2.get V.next=some (.cells (eV eZ bc bc bc zf bc 0 0)):=by rw[j7];exact(AW.aE _ _ (by omega)).trans ((lU.get _ (by omega)).trans gz)
   have s2:=iY (sv:=sv) (v:=v) (ev:=ev) (cv:=bc) (lv:=.slice (some ⟨U.next,0,none⟩) (qi v) (qi v)) (f:=(RS.init).of) (tn:=0) (st:= -1) gz2 dL h1 h2 rfl rfl;obtain⟨U3,ED⟩:∃U3,U3=U2.put V.next (.cells (eV v sv ev bc (RS.init).of (.slice (some ⟨U.next,0,none⟩) (qi v) (qi v)) 0 (-1))):=⟨_,rfl⟩;rw[<-ED]at s2;have g3:U3.get V.next=some (.cells (eV v sv ev bc (RS.init).of (.slice (some ⟨U.next,0,none⟩) (qi v) (qi v)) 0 (-1))):=by rw[ED];exact AW.bz _ _ _
   have gl3:U3.get U.next=some (.cells (List.replicate (qi v) (.af 0))):=by rw[ED,AW.aE _ _ (by omega),j7,AW.aE _ _ (by omega)];exact gl
   have n3:U3.next=U1.next:=by rw[ED,j7];rfl
   have lW:Le W U3:=by rw[ED,j7];exact(((a8.trans l1).trans (r5.trans lU)).put (by omega) _).put (by omega) _
   simp only[SX,r1,r2,r3,aI,lsh,akE,ln,ad,en,mk,s1,iF g2',s2,B5,RY,iF g3,bp,am];refine⟨_,rfl,lW,⟨⟨none,0,rfl,.inl rfl⟩,⟨_,_,by rw[pN],.inr ⟨U.next,0,_,rfl,by omega,bk gl3,?_⟩⟩⟩,λa k m e=>by
    injection e with e;injection e with e;rw[<-e];show W.next<=U.next;have:=a8.next;have:=r5.next;omega⟩;have e0:Gc RS.init (qi v)=List.replicate (qi v) 0:=by
    unfold Gc;rw[List.eq_replicate_iff];exact⟨by simp,λb hb=>by obtain⟨k,-,rfl⟩:=kq.1 hb;rfl⟩
   rw[e0,tV,List.map_replicate,kN,List.length_replicate,ko];exact mX (by simp)
 obtain⟨q,W',k1,lv,rfl,k2,k3⟩:=qN (Q:=λq W'=>∃lv,q=uT v sv ev bc (RS.init).of lv 0 (-1)/\Le W W'/\M4 W' v RS.init bc lv/\∀a k m,lv=.slice (some a) k m->W.next<=a.block) oK C6
  (λq W' ⟨lv,e1,a,b,g⟩ a8 hp=>⟨lv,e1,.refl _,by
    subst e1;have hlv:cG lv=true:=by have PQ:(eV v sv ev bc (RS.init).of lv 0 (-1)).all cG=true:=hp;rw[cM]at PQ;exact PQ lv (qw (rq (v:=v) (sv:=sv) (ev:=ev) (cv:=bc) (f:=(RS.init).of) (lv:=lv) (tn:=0) (st:= -1) 0))
    refine⟨⟨none,0,rfl,.inl rfl⟩,?_⟩;obtain⟨a',c',rfl,hc⟩:=b.l;refine⟨a',c',rfl,?_⟩;rcases hc with hc|⟨b0,o0,cs,rfl,-⟩
    ·exact .inl hc
    ·simp[cG]at hlv,g⟩)
 exact⟨lv,W',k1,k2,k3⟩
end
def Sm(n:Nat)(c0 c:ae):Prop:=c=c0\/∀a k m,c=.slice (some a) k m->n<=a.block
def EJ(W':AW)(n:Nat)(c0 l0:ae)(v:cA)(sv ev val:ae)(e:Int)(s':RS):Prop:=∃(cv lv:ae) (f:Int->Option ei) (tn st:Int),val=uT v sv ev cv f lv tn st/\Eng.one cv=true/\Eng.one lv=true/\(e=0->f=s'.of/\tn=s'.tn/\st=s'.st/\M4 W' v s' cv lv/\Sm n c0 cv/\Sm n l0 lv)
def uS{α:Type}{W W':AW}{z:Nat}{f:α->List ae}{v:ae}{l:List α}(h:Rd W z f v l)(hs:cG v=true):Rd W' z f v l:=by
 obtain⟨a,c,rfl,h⟩:=h;refine⟨a,c,rfl,?_⟩;rcases h with h|⟨b,o,cs,rfl,-⟩
 ·exact .inl h
 ·simp[cG]at hs
section
variable {W W' U:AW} {n:Nat} {c0 l0:ae} {v:cA} {sv ev cv lv val:ae} {s s':RS} {e:Int} {f:Int->Option ei} {tn st:Int} {b1 b2:Nat}
def EJ.bad(h0:e≠0)(h1:Eng.one cv=true)(h2:Eng.one lv=true):EJ W' n c0 l0 v sv ev (uT v sv ev cv f lv tn st) e s':=⟨cv,lv,f,tn,st,rfl,h1,h2,λhe=>absurd he h0⟩
def Ta{t o:Option (ae×AW)}(oK:Ok t λr=>∃val,r.1=.tuple #[val,.af e]/\Le W r.2/\EJ r.2 n c0 l0 v sv ev val e s')(Li:∀{r},t=some r->o=some (gc W r)):∃val W',o=some (.tuple #[val,.af e],W')/\Le W W'/\EJ W' n c0 l0 v sv ev val e s':=by
 obtain⟨q,W',k1,val,rfl,k2,k3⟩:=qN (Q:=λq W'=>∃val,q=.tuple #[val,.af e]/\Le W W'/\EJ W' n c0 l0 v sv ev val e s') oK Li
  (λq W' ⟨val,e1,a,b⟩ a8 hp=>⟨val,e1,.refl _,by
    subst e1;obtain⟨cv,lv,f,tn,st,rfl,h2,h3,h4⟩:=b;refine⟨cv,lv,f,tn,st,rfl,h2,h3,λhe=>?_⟩;obtain⟨q1,q2,q3,q4,q5⟩:=h4 he;have hp2:(eV v sv ev cv f lv tn st).all cG=true:=by simp only[bC,fa,mf,iM,bK,eI]at hp;exact hp.1
    rw[cM]at hp2;have hlv:=hp2 lv (qw (rq (v:=v) (sv:=sv) (ev:=ev) (cv:=cv) (f:=f) (lv:=lv) (tn:=tn) (st:=st) 0));have ZG:=hp2 cv (qw (i:=5) rfl);exact⟨q1,q2,q3,⟨uS q4.c ZG,uS q4.l hlv⟩,q5⟩⟩)
 exact⟨val,W',k1,k2,k3⟩
def KO{cs:List ae}(h1:Eng.one sv=true)(h2:Eng.one ev=true)(h3:Eng.one cv=true)(h4:Eng.one lv=true)(g1:U.get b1=some (.cells (eV v sv ev cv f lv tn st)))(g2:U.get b2=some (.cells cs))(hl:cs.length=204)(e:Int):
 ∃U',bA 204 (cr b1) U=some (uT v sv ev cv f lv tn st,U)/\bP 204 (cr b2) (uT v sv ev cv f lv tn st) U=some (ag,U')/\aF Tryz.prog [(cr b2,some 88),(.af e,none)] U'=some (.tuple #[uT v sv ev cv f lv tn st,.af e],U')/\U'.next=U.next/\∀d,d≠b2->U'.get d=U.get d:=by
 refine⟨_,iF g1,iY g2 hl h1 h2 h3 h4,?_,rfl,λd hd=>AW.aE _ _ (bL hd)⟩;rw[eT,RY,iF (AW.bz _ _ _)];rfl
def Hf(v:cA)(sv ev cv:ae)(f:Int->Option ei)(lv:ae)(tn st:Int)(x:de)(W:AW):∃V1 V2 V3,cD (uT v sv ev cv f lv tn st) W=some (cr W.next,V1)/\aY Tryz.prog 88 V1=some (cr (W.next+1),V2)/\Le W V2/\V2.next=W.next+2/\aY Tryz.prog 98 V2=some (cr (W.next+2),V2.add (.cells (fe rd0)))/\bP 31 (cr (W.next+2)) (AT x) (V2.add (.cells (fe rd0)))=some (ag,V3)/\Le V2 V3/\V3.next=W.next+3/\
 V2.get W.next=some (.cells (eV v sv ev cv f lv tn st))/\V3.get W.next=some (.cells (eV v sv ev cv f lv tn st))/\V3.get (W.next+1)=some (.cells (eV eZ bc bc bc zf bc 0 0))/\V3.get (W.next+2)=some (.cells (fe x)):=by
 have a:=gD (W:=W) (eV v sv ev cv f lv tn st).toArray;obtain⟨V1,wL⟩:∃V1,V1=W.add (.cells (eV v sv ev cv f lv tn st)):=⟨_,rfl⟩;have n1:V1.next=W.next+1:=by rw[wL];rfl
 obtain⟨V2,pG⟩:∃V2,V2=V1.add (.cells (eV eZ bc bc bc zf bc 0 0)):=⟨_,rfl⟩;have n2:V2.next=W.next+2:=by rw[pG,AW.aG,n1]
 obtain⟨V3,Zd⟩:∃V3,V3=V2.add (.cells (fe x)):=⟨_,rfl⟩;have l1:Le W V1:=by rw[wL];exact(Le.refl _).add _
 have l2:Le V1 V2:=by rw[pG];exact(Le.refl _).add _
 have l3:Le V2 V3:=by rw[Zd];exact(Le.refl _).add _
 have g1:V1.get W.next=some (.cells (eV v sv ev cv f lv tn st)):=by rw[wL];exact AW.aT _ _
 have g2:V2.get (W.next+1)=some (.cells (eV eZ bc bc bc zf bc 0 0)):=by rw[pG,<-n1];exact AW.aT _ _
 have p:=NO x V2;have a98:=Yg V2;rw[n2]at p a98;refine⟨V1,V2,V3,by rw[wL];exact a,by rw[pG,<-n1];exact Im V1,l1.trans l2,n2,a98,by rw[Zd];exact p,l3,by rw[Zd,AW.aG,n2],(l2.get _ (by omega)).trans g1,((l2.trans l3).get _ (by omega)).trans g1,(l3.get _ (by omega)).trans g2,by rw[Zd,<-n2];exact AW.aT _ _⟩
end
def acd(o:Option ei):∃c:Int,(kQ o)[0]? =some (.af c)/\(o=none->c= -1)/\∀q,o=some q->c=(q.c:Int):=by
 cases o with
 |none=>exact⟨-1,rfl,λ_=>rfl,λq h=>by cases h⟩
 |some q=>exact⟨q.c,rfl,(λh=>by cases h),λq' h=>by injection h with h;rw[h]⟩
def Vk(W:AW):aD Tryz.prog 33 0 [] W=some (.slice (some ⟨W.next,0,none⟩) 0 0,W.add (.cells [])):=aJ (by kernel_rfl) rfl
def afc(n:Int)(W:AW):bD Tryz.prog 85 [(0,.af n)] W=some (.agg #[.af n,.af 0,.bool false],W):=aJ (by kernel_rfl) rfl
def Tk(k:IntKind)(n:Int):fK (.int k n) (.int k n)=true:=by simp[fK,tr]
def adU(o:qS):fK (z8 o) (z8 o)=true:=nW (by unfold fy;simp[Sv,tr])
section
variable {W:AW} {v:cA} {sv ev cv lv:ae} {s:RS} {l:List de} {i:Nat} {x:de}
open Classical in
def Lz(hr:Hg W ev l)(hx:l[i]? =some x)(h:M4 W v s cv lv)(hI:kZ s)(h1:Eng.one sv=true)(hw:1<=x.wk/\x.wk<=64)(hk:x.k=1):
 ∃val W',bm (.func (.func 59) #[] #[]) [uT v sv ev cv s.of lv s.tn s.st,.af (i:Int)] W=some (.tuple #[val,.af (cY v s x)],W')/\Le W W'/\EJ W' W.next cv lv v sv ev val (cY v s x) (rN s i x):=by
 have h2:Eng.one ev=true:=row_one hr;have h3:=(ff h.c).2;have h4:=(ff h.l).2;refine Ta ?_ zC;unfold vY;obtain⟨V1,V2,V3,k1,k2,k3,k4,k5,k6,k7,k8,k9,g0,g1,g2⟩:=Hf v sv ev cv s.of lv s.tn s.st x W;obtain⟨hi,Ym⟩:=du.1 hx;obtain⟨p,p1,p2⟩:=hr.get hi;rw[Ym]at p2;have le:=NH k9;have lw:=fx g2;obtain⟨w,Be⟩:∃w:Nat,x.wk=(w:Int):=⟨x.wk.toNat,by omega⟩;have ix:=λW'=>sJ (len:=65) (z:=3) (b:=W.next) (o:=6) (i:=w) (k:=.i64) (W:=W') (by omega)
 rw[<-Be]at ix;obtain⟨c,c1,c2,c3⟩:=acd (s.of x.wk);have lc:aK (.pointer (some ⟨W.next,6+w*3,none⟩)) V3=some (.af c,V3):=by have:=On (w:=w) g0 (by omega) (j:=0) (by omega) (x:=.af c) (by rw[<-Be];exact c1);exact this
 have hE:cY v s x=if(s.of x.wk).isSome=true then 8 else if s.cl.length=200 then 3 else if x.id≠(s.cl.length:Int)+1 then 6 else opE x.op:=by unfold cY;rw[ax hk]
 have bad:∀{e:Int},cY v s x=e->e≠0->∃U',bA 204 (cr W.next) V3=some (uT v sv ev cv s.of lv s.tn s.st,V3)/\bP 204 (cr (W.next+1)) (uT v sv ev cv s.of lv s.tn s.st) V3=some (ag,U')/\aF Tryz.prog [(cr (W.next+1),some 88),(.af e,none)] U'=some (.tuple #[uT v sv ev cv s.of lv s.tn s.st,.af (cY v s x)],U')/\Le W U'/\EJ U' W.next cv lv v sv ev (uT v sv ev cv s.of lv s.tn s.st) (cY v s x) (rN s i x):=λ{e} he h0=>by obtain⟨U',q1,q2,q3,q4,q5⟩:=KO h1 h2 h3 h4 g0 g1 dL e;refine⟨U',q1,q2,by rw[he];exact q3,⟨by have:=k7.next;omega,λb hb=>(q5 b (by omega)).trans ((k7.get b (by omega)).trans (k3.get b hb))⟩,.bad (by rw[he];exact h0) h3 h4⟩
 have lcv:=iw g0;have ln:∀W',aB Tryz.prog .len #[33] 3 #[false] [cv] W'=some (.af (s.cl.length:Int),W'):=λW'=>Row.len (wM dA h.c) aai W' 3 #[false]
 by_cases e1:(s.of x.wk).isSome=true
 ·rw[ax e1]at hE;obtain⟨q,hq⟩:=Hl.1 e1;have d1:decide (0<=c)=true:=aS (by rw[c3 q hq];omega);obtain⟨U',q1,q2,q3,q4,q5⟩:=bad hE (by decide);simp only[SX,k1,k2,aI,cC,le,p1,p2 _ k3,k5,k6,lw,ix,lc,d1,q1,q2,q3,am];exact⟨_,rfl,q4,q5⟩
 rw[ay e1]at hE;have d1:decide (0<=c)=false:=bq (by rw[c2 (by simpa using e1)];omega);have eA:=hI.len;by_cases e2:s.cl.length=200
 ·rw[ax e2]at hE;have d2:decide ((s.cl.length:Int)=200)=true:=jr;obtain⟨U',q1,q2,q3,q4,q5⟩:=bad hE (by decide);simp only[SX,k1,k2,aI,cC,le,p1,p2 _ k3,k5,k6,lw,ix,lc,d1,lcv,ln,d2,q1,q2,q3,am];exact⟨_,rfl,q4,q5⟩
 rw[ay e2]at hE;have d2:decide ((s.cl.length:Int)=200)=false:=dS;have ad:=λW'=>cQ W' (s.cl.length:Int) 1
 have li:=fw g2;by_cases e3:x.id=(s.cl.length:Int)+1;case neg=>rw[ax e3]at hE;have d3:=bq e3;obtain⟨U',q1,q2,q3,q4,q5⟩:=bad hE (by decide);simp only[SX,k1,k2,aI,cC,le,p1,p2 _ k3,k5,k6,lw,ix,lc,d1,lcv,ln,d2,li,ad,d3,q1,q2,q3,am];exact⟨_,rfl,q4,q5⟩
 rw[ay (by simpa using e3)]at hE;have d3:=aS e3;have lo:=tx g2;have ck:=Qk x.op;by_cases e4:opE x.op=0;case neg=>have d4:=bq e4;obtain⟨U',q1,q2,q3,q4,q5⟩:=bad hE e4;simp only[SX,k1,k2,aI,cC,le,p1,p2 _ k3,k5,k6,lw,ix,lc,d1,lcv,ln,d2,li,ad,d3,lo,ck,d4,q1,q2,q3,am];exact⟨_,rfl,q4,q5⟩
 rw[e4]at hE;have d4:=aS e4;obtain⟨f',hf'⟩:∃f':Int->Option ei,f'=λk=>if k=(w:Int)then some ⟨s.cl.length,0,false⟩else s.of k:=⟨_,rfl⟩
 have so:=OS g0 (w:=w) (by omega) (some ⟨s.cl.length,0,false⟩);rw[<-hf']at so;obtain⟨V4,Xd⟩:∃V4,V4=V3.put W.next (.cells (eV v sv ev cv f' lv s.tn s.st)):=⟨_,rfl⟩;rw[<-Xd]at so;have so':bP 3 (.pointer (some ⟨W.next,6+w*3,none⟩)) (.agg #[.af (s.cl.length:Int),.af 0,.bool false]) V3=some (ag,V4):=so;have n4:V4.next=V3.next:=by rw[Xd];rfl
 have g40:V4.get W.next=some (.cells (eV v sv ev cv f' lv s.tn s.st)):=by rw[Xd];exact AW.bz _ _ _
 have o4:∀d,d≠W.next->V4.get d=V3.get d:=λd hd=>by rw[Xd];exact AW.aE _ _ (bL hd)
 obtain⟨V5,Sy⟩:∃V5,V5=V4.add (.cells []):=⟨_,rfl⟩;have l5:Le V4 V5:=by rw[Sy];exact(Le.refl _).add _
 have n5:V5.next=V4.next+1:=by rw[Sy];rfl
 have b5:=Vk V4;rw[<-Sy]at b5;obtain⟨V6,YR⟩:∃V6,V6=V5.add (.cells (gq ⟨x.id,x.wk,x.op,wO,i,-1,-1⟩)):=⟨_,rfl⟩;have l6:Le V5 V6:=by rw[YR];exact(Le.refl _).add _
 have n6:V6.next=V5.next+1:=by rw[YR];rfl
 have b6:=afW ⟨x.id,x.wk,x.op,wO,i,-1,-1⟩ V5;rw[<-YR]at b6;have gy:V6.get V5.next=some (.cells (gq ⟨x.id,x.wk,x.op,wO,i,-1,-1⟩)):=by rw[YR];exact AW.aT _ _
 have hW3:Le W V3:=k3.trans k7;have Sj:Le W V4:=by rw[Xd];exact hW3.put (aP _) _
 have le6:Le W V6:=(Sj.trans l5).trans l6;have l46:=l5.trans l6;have hE0:EL V6.next V6 26 gq (.slice (some ⟨V4.next,0,none⟩) 0 0) []:=EL.Uc _ _ _ _ _;obtain⟨u1,V7,m1,m2,m3,m4⟩:=hE0.app Xq dA BN (h.c.dq le6) (by simp;omega) (by simp;omega) (aP _);rw[kg]at m2;have gy7:V7.get V5.next=some (.cells (gq ⟨x.id,x.wk,x.op,wO,i,-1,-1⟩)):=(m4 _ (by omega)).trans gy;have ry:Rd V7 26 gq (.slice (some ⟨V5.next,0,none⟩) 1 1) [⟨x.id,x.wk,x.op,wO,i,-1,-1⟩]:=⟨_,_,rfl,.inr ⟨V5.next,0,_,rfl,by omega,bk gy7,rfl⟩⟩;obtain⟨u2,V8,m5,m6,m7,m8⟩:=m2.app Xq dA BN ry (by simp;omega) (by simp;omega) m3;have g45:V5.get W.next=some (.cells (eV v sv ev cv f' lv s.tn s.st)):=(l5.get _ (by omega)).trans g40;have gx4:V4.get (W.next+2)=some (.cells (fe x)):=(o4 _ (by omega)).trans g2;have gx5:V5.get (W.next+2)=some (.cells (fe x)):=(l5.get _ (by omega)).trans gx4;have gx7:V7.get (W.next+2)=some (.cells (fe x)):=(m4 _ (by omega)).trans ((l6.get _ (by omega)).trans gx5);have g48:V8.get W.next=some (.cells (eV v sv ev cv f' lv s.tn s.st)):=(m8 _ (by omega)).trans ((m4 _ (by omega)).trans ((l46.get _ (by omega)).trans g40));have wo:=(ff (m6.rd dA));have sc:=Oe g48 wo.1 wo.2;obtain⟨V9,Rl⟩:∃V9,V9=V8.put W.next (.cells (eV v sv ev u2 f' lv s.tn s.st)):=⟨_,rfl⟩;rw[<-Rl]at sc;have n9:V9.next=V8.next:=by rw[Rl];rfl
 have g90:V9.get W.next=some (.cells (eV v sv ev u2 f' lv s.tn s.st)):=by rw[Rl];exact AW.bz _ _ _
 have o9:∀d,d≠W.next->V9.get d=V8.get d:=λd hd=>by rw[Rl];exact AW.aE _ _ (bL hd)
 have g91:V9.get (W.next+1)=some (.cells (eV eZ bc bc bc zf bc 0 0)):=(o9 _ (by omega)).trans ((m8 _ (by omega)).trans ((m4 _ (by omega)).trans ((l46.get _ (by omega)).trans ((o4 _ (by omega)).trans g1))));obtain⟨U',q1,q2,q3,q4,q5⟩:=KO h1 h2 wo.2 h4 g90 g91 dL 0;have lo5:=tx gx5;have lo7:=tx gx7;simp only[SX,k1,k2,aI,cC,le,p1,p2 _ k3,k5,k6,lw,ix,lc,d1,lcv,ln,d2,li,ad,d3,lo,ck,d4,afc,so',b5,iw g45,fw gx5,fx gx5,lo5,afS,b6,m1,kE,lo7,fx gx7,fw gx7,adU,Tk,iM,m5,sc,q1,q2,q3,am];have leF:Le W U':=⟨by omega,λb hb=>(q5 b (by omega)).trans ((o9 b (by omega)).trans ((m8 b (by omega)).trans ((m4 b (by omega)).trans ((l46.get b (by omega)).trans (Sj.get b hb)))))⟩;refine⟨_,by rw[hE],leF,u2,lv,f',s.tn,s.st,rfl,wo.2,h4,λ_=>?_⟩;have er:rN s i x={s with cl:=s.cl++[⟨x.id,x.wk,x.op,wO,i,-1,-1⟩],of:=λw=>if w=x.wk then some ⟨s.cl.length,0,false⟩else s.of w}:=by unfold rN;rw[ax hk]
 rw[er];refine⟨by rw[hf',Be],rfl,rfl,⟨?_,h.l.dq leF⟩,.inr λa k m e=>?_,.inl rfl⟩;rotate_left
 ·rcases m6 with⟨e0,-⟩|⟨-,B,c,z1,z2,z3,-⟩
  ·simp at e0
  ·rw[e]at z3;injection z3 with z3;injection z3 with z3;rw[z3];show W.next<=B;omega
 refine(m6.dq (W':=U') (by omega) λb hb iW=>?_).rd dA;exact(q5 b (by omega)).trans (o9 b (by omega))
end
def VN{v:cA}{sv ev cv lv:ae}{f:Int->Option ei}{tn st:Int}{W:AW}{b:Nat}(h:W.get b=some (.cells (eV v sv ev cv f lv tn st))){w:Nat}(hw:w<65){j:Nat}(hj:j<3){x:ae}(h1:x.cells=#[x])(h2:Eng.one x=true){o:ei}(ho:kQ (some o)=(kQ (f w)).set j x):
 bP 1 (.pointer (some ⟨b,6+w*3+j,none⟩)) x W=some (ag,W.put b (.cells (eV v sv ev cv (λk=>if k=(w:Int)then some o else f k) lv tn st))):=by
 obtain⟨pre,post,q1,q2,q3⟩:=rk (v:=v) (sv:=sv) (ev:=ev) (cv:=cv) (f:=f) (lv:=lv) (tn:=tn) (st:=st) w hw;have q4:=q3 (λk=>if k=(w:Int)then some o else f k) (λk hk=>by rw[b8]);rw[ax rfl]at q4;rw[gx h1 h2,Bp h,bp,ax (by rw[dL];omega),q4,q2,<-q1,ya _ _ (by omega),xJ,List.set_append_left _ _ (by rw[fE];omega),ho]
def ahQ(W:AW):aY Tryz.prog 85 W=some (cr W.next,W.add (.cells [.af 0,.af 0,.bool false])):=aJ (by kernel_rfl) rfl
def ClL.get{W:AW}{v:ae}{l:List pc}(h:ClL W v l){i:Nat}(hi:i<l.length):
 ∃b o,(∀W' k,gn 26 v (.int k (i:Int)) W'=some (.pointer (some ⟨b,o,none⟩),W'))/\∀W',W'.get b=W.get b->bA 26 (.pointer (some ⟨b,o,none⟩)) W'=some (clV l[i],W')/\aK (.pointer (some ⟨b,o,none⟩)) W'=some (.af l[i].id,W')/\bA 12 (.pointer (some ⟨b,o+2,none⟩)) W'=some (z8 l[i].op,W')/\b<W.next:=by
 obtain⟨b,o,cs,h1,h2,h3,h4⟩:=h.elem hi;refine⟨b,o,h1,λW' hg=>?_⟩;have hc:aL W' b=some cs:=by
  have:aL W' b=aL W b:=by unfold aL;rw[hg]
  rw[this];exact h3
 have e0:(cs.drop o).take 26=gq l[i]:=h4;refine⟨?_,df hc ((oC h4 (j:=0) (by omega)).trans rfl),?_,h2⟩
 ·have:=eh (n:=26) (o:=o) hc (by rw[e0];rfl);rw[e0]at this;exact this
 ·have e2:(cs.drop (o+2)).take 12=((gq l[i]).drop 2).take 12:=by rw[<-e0,xd,nL,uY];rfl
  have:=eh (n:=12) (o:=o+2) hc (by rw[e2];rfl);rw[e2]at this;exact this
section
variable {W:AW} {v:cA} {sv ev cv lv:ae} {s:RS} {l:List de} {i:Nat} {x:de} {o:ei}
open Classical in
def M9(hr:Hg W ev l)(hx:l[i]? =some x)(h:M4 W v s cv lv)(hI:kZ s)(h1:Eng.one sv=true)(hw:1<=x.wk/\x.wk<=64)(hk:x.k=6)(ho:s.of x.wk=some o):
 ∃val W',bm (.func (.func 61) #[] #[]) [uT v sv ev cv s.of lv s.tn s.st,.af (i:Int)] W=some (.tuple #[val,.af (cY v s x)],W')/\Le W W'/\EJ W' W.next cv lv v sv ev val (cY v s x) (rN s i x):=by
 have h2:Eng.one ev=true:=row_one hr;have h3:=(ff h.c).2;have h4:=(ff h.l).2;refine Ta ?_ zi;unfold vR;obtain⟨V1,V2,V3,k1,k2,k3,k4,k5,k6,k7,k8,k9,g0,g1,g2⟩:=Hf v sv ev cv s.of lv s.tn s.st x W;obtain⟨hi,Ym⟩:=du.1 hx;obtain⟨p,p1,p2⟩:=hr.get hi;rw[Ym]at p2;have le:=NH k9;have lw:=fx g2;obtain⟨w,Be⟩:∃w:Nat,x.wk=(w:Int):=⟨x.wk.toNat,by omega⟩;have ix:=λW'=>sJ (len:=65) (z:=3) (b:=W.next) (o:=6) (i:=w) (k:=.i64) (W:=W') (by omega)
 rw[<-Be]at ix;have l3:bA 3 (.pointer (some ⟨W.next,6+w*3,none⟩)) V3=some (.agg #[.af (o.c:Int),.af (o.s:Int),.bool o.e],V3):=by have:=Lp g0 (w:=w) (by omega);rw[<-Be,ho]at this;exact this
 have mr:=hI.of _ _ ho;have hE:cY v s x=if CC (aZ s o.c) o x.en then 0 else 6:=by unfold cY;rw[b8,ho];simp only[ay (show¬x.k=5 by omega),ax hk]
 have aeJ:Le W V3:=k3.trans k7;obtain⟨V4,Xd⟩:∃V4,V4=V3.add (.cells [.af (o.c:Int),.af (o.s:Int),.bool o.e]):=⟨_,rfl⟩;have l4:Le V3 V4:=by rw[Xd];exact(Le.refl _).add _
 have n4:V4.next=W.next+4:=by rw[Xd,AW.aG,k8]
 have a4:=ahQ V3;have s4:bP 3 (cr V3.next) (.agg #[.af (o.c:Int),.af (o.s:Int),.bool o.e]) (V3.add (.cells [.af 0,.af 0,.bool false]))=some (ag,V4):=by have:=ov (n:=3) (vs:=#[.af (o.c:Int),.af (o.s:Int),.bool o.e]) (AW.aT V3 (.cells [.af 0,.af 0,.bool false])) rfl rfl rfl;rw[gt,]at this;rw[Xd];exact this
 have g43:V4.get V3.next=some (.cells [.af (o.c:Int),.af (o.s:Int),.bool o.e]):=by rw[Xd];exact AW.aT _ _
 have g40:=(l4.get _ (by omega)).trans g0;have Lx:aK (cr V3.next) V4=some (.af (o.c:Int),V4):=eQ g43 rfl;obtain⟨B,oo,c1,c2⟩:=ClL.get (wM dA (h.c.dq (aeJ.trans l4))) mr;obtain⟨c3,-,-,-⟩:=c2 V4 rfl;rw[<-pD mr]at c3;obtain⟨V5,Sy⟩:∃V5,V5=V4.add (.cells (gq (aZ s o.c))):=⟨_,rfl⟩;have l5:Le V4 V5:=by rw[Sy];exact(Le.refl _).add _
 have n5:V5.next=W.next+5:=by rw[Sy,AW.aG,n4]
 have a5:=aft V4;have s5:=ZP (aZ s o.c) V4;rw[<-Sy]at s5;have g54:V5.get V4.next=some (.cells (gq (aZ s o.c))):=by rw[Sy];exact AW.aT _ _
 have ltk:bA 4 (.pointer (some ⟨V4.next,9,none⟩)) V5=some (.agg #[.int .u32 (aZ s o.c).op.t1,.int .u32 (aZ s o.c).op.t2,.int .u64 (aZ s o.c).op.t3,.int .u64 (aZ s o.c).op.t4],V5):=eh (bk g54) rfl;obtain⟨V6,YR⟩:∃V6,V6=V5.add (.cells [.int .u32 (aZ s o.c).op.t1,.int .u32 (aZ s o.c).op.t2,.int .u64 (aZ s o.c).op.t3,.int .u64 (aZ s o.c).op.t4]):=⟨_,rfl⟩;have l6:Le V5 V6:=by rw[YR];exact(Le.refl _).add _
 have n6:V6.next=W.next+6:=by rw[YR,AW.aG,n5]
 have a6:=aeU V5;have s6:bP 4 (cr V5.next) (.agg #[.int .u32 (aZ s o.c).op.t1,.int .u32 (aZ s o.c).op.t2,.int .u64 (aZ s o.c).op.t3,.int .u64 (aZ s o.c).op.t4]) (V5.add (.cells [.int .u32 0,.int .u32 0,.int .u64 0,.int .u64 0]))=some (ag,V6):=by have:=ov (n:=4) (vs:=#[.int .u32 (aZ s o.c).op.t1,.int .u32 (aZ s o.c).op.t2,.int .u64 (aZ s o.c).op.t3,.int .u64 (aZ s o.c).op.t4]) (AW.aT V5 (.cells [.int .u32 0,.int .u32 0,.int .u64 0,.int .u64 0])) rfl rfl rfl;rw[gt]at this;rw[YR];exact this
 have g65:V6.get V5.next=some (.cells [.int .u32 (aZ s o.c).op.t1,.int .u32 (aZ s o.c).op.t2,.int .u64 (aZ s o.c).op.t3,.int .u64 (aZ s o.c).op.t4]):=by rw[YR];exact AW.aT _ _
 have l36:=(l4.trans l5).trans l6;have g6x:=(l36.get _ (by omega)).trans g2;have g60:=(l36.get _ (by omega)).trans g0;have g61:=(l36.get _ (by omega)).trans g1;have g63:=((l5.trans l6).get _ (by omega)).trans g43;have g64:=(l6.get _ (by omega)).trans g54;have le6:Le W V6:=aeJ.trans l36;have ck:aK (.pointer (some ⟨V4.next,2,none⟩)) V6=some (.af (aZ s o.c).op.k,V6):=eQ g64 rfl;have W9:aK (.pointer (some ⟨V4.next,24,none⟩)) V6=some (.af (aZ s o.c).co,V6):=eQ g64 rfl;have YS:aK (.pointer (some ⟨V4.next,14,none⟩)) V6=some (.af (aZ s o.c).rp.er,V6):=eQ g64 rfl;have Z3:aK (.pointer (some ⟨V3.next,2,none⟩)) V6=some (.bool o.e,V6):=eQ g63 rfl;have e0:aK (.pointer (some ⟨W.next+2,26,none⟩)) V6=some (.int .u32 x.en.se,V6):=eQ g6x rfl;have e1:aK (.pointer (some ⟨W.next+2,27,none⟩)) V6=some (.int .u64 x.en.sr,V6):=eQ g6x rfl;have e2:aK (.pointer (some ⟨W.next+2,28,none⟩)) V6=some (.int .u64 x.en.ep,V6):=eQ g6x rfl;have e3:aK (.pointer (some ⟨W.next+2,29,none⟩)) V6=some (.af x.en.ga,V6):=eQ g6x rfl;have e4:aK (.pointer (some ⟨W.next+2,30,none⟩)) V6=some (.af x.en.ti,V6):=eQ g6x rfl;have t0:aK (cr V5.next) V6=some (.int .u32 (aZ s o.c).op.t1,V6):=eQ g65 rfl;have t2:aK (.pointer (some ⟨V5.next,2,none⟩)) V6=some (.int .u64 (aZ s o.c).op.t3,V6):=eQ g65 rfl;have t3:aK (.pointer (some ⟨V5.next,3,none⟩)) V6=some (.int .u64 (aZ s o.c).op.t4,V6):=eQ g65 rfl;have bad:¬CC (aZ s o.c) o x.en->∃U',bA 204 (cr W.next) V6=some (uT v sv ev cv s.of lv s.tn s.st,V6)/\bP 204 (cr (W.next+1)) (uT v sv ev cv s.of lv s.tn s.st) V6=some (ag,U')/\aF Tryz.prog [(cr (W.next+1),some 88),(.af 6,none)] U'=some (.tuple #[uT v sv ev cv s.of lv s.tn s.st,.af (cY v s x)],U')/\Le W U'/\EJ U' W.next cv lv v sv ev (uT v sv ev cv s.of lv s.tn s.st) (cY v s x) (rN s i x):=λhm=>by
  have he:cY v s x=6:=by rw[hE,ay hm]
  obtain⟨U',q1,q2,q3,q4,q5⟩:=KO h1 h2 h3 h4 g60 g61 dL 6;refine⟨U',q1,q2,by rw[he];exact q3,⟨by omega,λb hb=>(q5 b (by omega)).trans (le6.get b hb)⟩,.bad (by rw[he];decide) h3 h4⟩
 simp only[SX,k1,k2,aI,cC,le,p1,p2 _ k3,k5,k6,lw,ix,l3,a4,s4,iw g40,Lx,c1,c3,a5,s5,ltk,a6,s6,ck];by_cases b1:(aZ s o.c).op.k=9;case neg=>
  have d:=bq b1;obtain⟨U',q1,q2,q3,q4,q5⟩:=bad λm=>b1 m.1
  simp only[SX,d,q1,q2,q3,am];exact⟨_,rfl,q4,q5⟩
 have d1:=aS b1;by_cases b2:(aZ s o.c).co<0
 ·have d:=aS b2;obtain⟨U',q1,q2,q3,q4,q5⟩:=bad λm=>by have:=m.2.1;omega
  simp only[SX,d1,W9,d,q1,q2,q3,am];exact⟨_,rfl,q4,q5⟩
 have d2:=bq b2;by_cases b3:(aZ s o.c).rp.er=0;case neg=>
  have d:=bq b3;obtain⟨U',q1,q2,q3,q4,q5⟩:=bad λm=>b3 m.2.2.1
  simp only[SX,d1,W9,d2,YS,d,q1,q2,q3,am];exact⟨_,rfl,q4,q5⟩
 have d3:=aS b3;cases b4:o.e with
 |true=>
  obtain⟨U',q1,q2,q3,q4,q5⟩:=bad λm=>by have:=m.2.2.2.1;rw[b4]at this;cases this
  simp only[SX,d1,W9,d2,YS,d3,Z3,b4,q1,q2,q3,am];exact⟨_,rfl,q4,q5⟩
 |false=>
 by_cases a1:x.en.se=(aZ s o.c).op.t1;case neg=>
  have d:=bq a1;obtain⟨U',q1,q2,q3,q4,q5⟩:=bad λm=>a1 m.2.2.2.2.1
  simp only[SX,d1,W9,d2,YS,d3,Z3,b4,e0,t0,d,q1,q2,q3,am];exact⟨_,rfl,q4,q5⟩
 have f1:=aS a1;by_cases a2:x.en.sr=(aZ s o.c).op.t3;case neg=>
  have d:=bq a2;obtain⟨U',q1,q2,q3,q4,q5⟩:=bad λm=>a2 m.2.2.2.2.2.1
  simp only[SX,d1,W9,d2,YS,d3,Z3,b4,e0,t0,f1,e1,t2,d,q1,q2,q3,am];exact⟨_,rfl,q4,q5⟩
 have f2:=aS a2;by_cases a3:x.en.ep=(aZ s o.c).op.t4;case neg=>
  have d:=bq a3;obtain⟨U',q1,q2,q3,q4,q5⟩:=bad λm=>a3 m.2.2.2.2.2.2.1
  simp only[SX,d1,W9,d2,YS,d3,Z3,b4,e0,t0,f1,e1,t2,f2,e2,t3,d,q1,q2,q3,am];exact⟨_,rfl,q4,q5⟩
 have f3:=aS a3;by_cases b5:x.en.ga<0
 ·have d:=aS b5;obtain⟨U',q1,q2,q3,q4,q5⟩:=bad λm=>by have:=m.2.2.2.2.2.2.2.1;omega
  simp only[SX,d1,W9,d2,YS,d3,Z3,b4,e0,t0,f1,e1,t2,f2,e2,t3,f3,e3,d,q1,q2,q3,am];exact⟨_,rfl,q4,q5⟩
 have d5:=bq b5;by_cases b6:8<=x.en.ga
 ·have d:=aS b6;obtain⟨U',q1,q2,q3,q4,q5⟩:=bad λm=>by have:=m.2.2.2.2.2.2.2.2.1;omega
  simp only[SX,d1,W9,d2,YS,d3,Z3,b4,e0,t0,f1,e1,t2,f2,e2,t3,f3,e3,d5,d,q1,q2,q3,am];exact⟨_,rfl,q4,q5⟩
 have d6:=bq b6;by_cases b7:x.en.ti<0
 ·have d:=aS b7;obtain⟨U',q1,q2,q3,q4,q5⟩:=bad λm=>by have:=m.2.2.2.2.2.2.2.2.2;omega
  simp only[SX,d1,W9,d2,YS,d3,Z3,b4,e0,t0,f1,e1,t2,f2,e2,t3,f3,e3,d5,d6,e4,d,q1,q2,q3,am];exact⟨_,rfl,q4,q5⟩
 have d7:=bq b7;have hm:CC (aZ s o.c) o x.en:=⟨b1,by omega,b3,b4,a1,a2,a3,by omega,by omega,by omega⟩;have he:cY v s x=0:=by rw[hE,ax hm]
 have lw6:=fx g6x;have so:=VN g60 (w:=w) (by omega) (j:=2) (by omega) (x:=.bool true) rfl rfl (o:=⟨o.c,o.s,true⟩) (by rw[<-Be,ho];rfl);obtain⟨f',hf'⟩:∃f':Int->Option ei,f'=λk=>if k=(w:Int)then some ⟨o.c,o.s,true⟩else s.of k:=⟨_,rfl⟩
 rw[<-hf']at so;obtain⟨V7,Z6⟩:∃V7,V7=V6.put W.next (.cells (eV v sv ev cv f' lv s.tn s.st)):=⟨_,rfl⟩;rw[<-Z6]at so;have n7:V7.next=V6.next:=by rw[Z6];rfl
 have g70:V7.get W.next=some (.cells (eV v sv ev cv f' lv s.tn s.st)):=by rw[Z6];exact AW.bz _ _ _
 have o7:∀d,d≠W.next->V7.get d=V6.get d:=λd hd=>by rw[Z6];exact AW.aE _ _ (bL hd)
 have g71:=(o7 (W.next+1) (by omega)).trans g61;obtain⟨U',q1,q2,q3,q4,q5⟩:=KO h1 h2 h3 h4 g70 g71 dL 0;simp only[SX,d1,W9,d2,YS,d3,Z3,b4,e0,t0,f1,e1,t2,f2,e2,t3,f3,e3,d5,d6,e4,d7,lw6,ix,so,q1,q2,q3,am];have leF:Le W U':=⟨by omega,λb hb=>(q5 b (by omega)).trans ((o7 b (by omega)).trans (le6.get b hb))⟩;refine⟨_,by rw[he],leF,cv,lv,f',s.tn,s.st,rfl,h3,h4,λ_=>?_⟩;have er:rN s i x={s with of:=λw=>if w=x.wk then some ⟨o.c,o.s,true⟩else s.of w}:=by unfold rN;rw[b8,ho];simp only[ay (show¬x.k=5 by omega),ax hk]
 rw[er];exact⟨by rw[hf',Be],rfl,rfl,⟨h.c.dq leF,h.l.dq leF⟩,.inl rfl,.inl rfl⟩
end
structure yH (W U:AW) (v:cA) (sv ev cv:ae) (f:Int->Option ei) (lv:ae) (tn st:Int) (x:de):Prop where
 le:Le W U
 nx:W.next+3<=U.next
 g0:U.get W.next=some (.cells (eV v sv ev cv f lv tn st))
 g1:U.get (W.next+1)=some (.cells (eV eZ bc bc bc zf bc 0 0))
 g2:U.get (W.next+2)=some (.cells (fe x))
section
variable {W U U':AW} {v:cA} {sv ev cv lv:ae} {s:RS} {f f':Int->Option ei} {tn st:Int} {i:Nat} {x:de} {o:ei}
def yH.mono(h:yH W U v sv ev cv f lv tn st x)(a8:Le U U'):yH W U' v sv ev cv f lv tn st x:=by have:=h.nx;exact⟨h.le.trans a8,by have:=a8.next;omega,(a8.get _ (by omega)).trans h.g0,(a8.get _ (by omega)).trans h.g1,(a8.get _ (by omega)).trans h.g2⟩
def yH.put(h:yH W U v sv ev cv f lv tn st x)(lN:ae)(f':Int->Option ei)(Gp:ae)(Vf EA:Int):yH W (U.put W.next (.cells (eV v sv ev lN f' Gp Vf EA))) v sv ev lN f' Gp Vf EA x:=
 ⟨h.le.put (aP _) _,by rw[AW.cT];exact h.nx,AW.bz _ _ _,(AW.aE _ _ (by omega)).trans h.g1,(AW.aE _ _ (by omega)).trans h.g2⟩
def yH.far(h:yH W U v sv ev cv f lv tn st x)(hn:U.next<=U'.next)(hg:∀d,d<W.next+3->U'.get d=U.get d):yH W U' v sv ev cv f lv tn st x:=
 ⟨⟨by have:=h.le.next;omega,λd hd=>(hg d (by omega)).trans (h.le.get d hd)⟩,by have:=h.nx;omega,(hg _ (by omega)).trans h.g0,(hg _ (by omega)).trans h.g1,(hg _ (by omega)).trans h.g2⟩
def yH.fin(h:yH W U v sv ev cv f lv tn st x)(h1:Eng.one sv=true)(h2:Eng.one ev=true)(h3:Eng.one cv=true)(h4:Eng.one lv=true)(e:Int):
 ∃U',bA 204 (cr W.next) U=some (uT v sv ev cv f lv tn st,U)/\bP 204 (cr (W.next+1)) (uT v sv ev cv f lv tn st) U=some (ag,U')/\aF Tryz.prog [(cr (W.next+1),some 88),(.af e,none)] U'=some (.tuple #[uT v sv ev cv f lv tn st,.af e],U')/\Le W U'/\U'.next=U.next/\∀d,d≠W.next+1->U'.get d=U.get d:=by
 obtain⟨U',q1,q2,q3,q4,q5⟩:=KO h1 h2 h3 h4 h.g0 h.g1 dL e;exact⟨U',q1,q2,q3,⟨by have:=h.le.next;omega,λd hd=>(q5 d (by omega)).trans (h.le.get d hd)⟩,q4,q5⟩
def nxO(h:yH W U v sv ev cv f lv tn st x)(c t:Int)(e:Bool):∃V,aY Tryz.prog 85 U=some (cr U.next,U.add (.cells [.af 0,.af 0,.bool false]))/\bP 3 (cr U.next) (.agg #[.af c,.af t,.bool e]) (U.add (.cells [.af 0,.af 0,.bool false]))=some (ag,V)/\Le U V/\V.next=U.next+1/\V.get U.next=some (.cells [.af c,.af t,.bool e]):=by have:=ov (n:=3) (vs:=#[.af c,.af t,.bool e]) (AW.aT U (.cells [.af 0,.af 0,.bool false])) rfl rfl rfl;rw[gt]at this;exact⟨_,ahQ U,this,(Le.refl _).add _,rfl,AW.aT _ _⟩
def ZB{V4:AW}(h:yH W V4 v sv ev cv s.of lv tn st x)(hC:M4 W v s cv lv)(hI:kZ s)(ho:s.of x.wk=some o)(hs:eY W sv v.az)(hv:v.az.length<1000)(hr:∀s∈v.az,s.rows.length<1000){b3:Nat}(EU:W.next+3<=b3/\b3<V4.next)(g3:V4.get b3=some (.cells [.af (o.c:Int),.af (o.s:Int),.bool o.e])):
 ∃(V5 V6 V7 V8:AW) (u uv:ae) (B:Nat) (se:Int),aD Tryz.prog 33 0 [] V4=some (.slice (some ⟨V4.next,0,none⟩) 0 0,V5)/\aK (.pointer (some ⟨W.next,5,none⟩)) V5=some (cv,V5)/\aN Tryz.prog V5 #[33,33] (.slice (some ⟨V4.next,0,none⟩) 0 0) cv=some (u,V6)/\
  bP 1 (.pointer (some ⟨W.next,5,none⟩)) u V6=some (ag,V7)/\bA 4 (cr W.next) V7=some (fc v sv,V7)/\aK (.pointer (some ⟨W.next,5,none⟩)) V7=some (u,V7)/\aK (cr b3) V7=some (.af (o.c:Int),V7)/\(∀W' kk,gn 26 u (.int kk (o.c:Int)) W'=some (.pointer (some ⟨B,o.c*26,none⟩),W'))/\
  bA 12 (.pointer (some ⟨B,o.c*26+2,none⟩)) V7=some (z8 (aZ s o.c).op,V7)/\bm (.func (.func 60) #[] #[]) [fc v sv,z8 (aZ s o.c).op] V7=some (.tuple #[uv,.af se],V8)/\Zk V8 uv (wT v (aZ s o.c).op)/\
  yH W V8 v sv ev u s.of lv tn st x/\V8.get b3=some (.cells [.af (o.c:Int),.af (o.s:Int),.bool o.e])/\(W.next+3<=B/\b3≠B/\B<V8.next/\V8.get B=some (.cells (s.cl.flatMap gq))/\∃c,u=.slice (some ⟨B,0,none⟩) s.cl.length c)/\Eng.one u=true/\V4.next<=V8.next:=by
 have WW:=h.nx;have mr:=hI.of _ _ ho;have eA:=hI.len;obtain⟨V5,Sy⟩:∃V5,V5=V4.add (.cells []):=⟨_,rfl⟩;have l5:Le V4 V5:=by rw[Sy];exact(Le.refl _).add _
 have n5:V5.next=V4.next+1:=by rw[Sy];rfl
 have b5:=Vk V4;rw[<-Sy]at b5;have h5:=h.mono l5;have hE0:EL V5.next V5 26 gq (.slice (some ⟨V4.next,0,none⟩) 0 0) []:=EL.Uc _ _ _ _ _;obtain⟨u,V6,m1,m2,m3,m4⟩:=hE0.app Xq dA BN (hC.c.dq h5.le) (by simp;omega) (by simp;omega) (aP _);rw[kg]at m2;have h6:=h5.far m3 λd hd=>m4 d (by omega)
 have wo:=ff (m2.rd dA);have sc:=Oe h6.g0 wo.1 wo.2;have h7:=h6.put u s.of lv tn st;obtain⟨V7,Z6⟩:∃V7,V7=V6.put W.next (.cells (eV v sv ev u s.of lv tn st)):=⟨_,rfl⟩;rw[<-Z6]at sc h7;have n7:V7.next=V6.next:=by rw[Z6];rfl
 have o7:∀d,d≠W.next->V7.get d=V6.get d:=λd hd=>by rw[Z6];exact AW.aE _ _ (bL hd)
 rcases m2 with⟨e,-⟩|⟨h0,B,cc,apG,hBn,rfl,np,hB⟩
 ·rw[e]at mr;cases mr
 have hB7:V7.get B=some (.cells (s.cl.flatMap gq)):=(o7 _ (by omega)).trans hB;obtain⟨f1,f2,f3⟩:=rA hB7 mr;have g37:V7.get b3=some (.cells [.af (o.c:Int),.af (o.s:Int),.bool o.e]):=(o7 _ (by omega)).trans ((m4 _ (by omega)).trans ((l5.get _ EU.2).trans g3));obtain⟨uv,V8,a1,a2,a3⟩:=QK (o:=(aZ s o.c).op) (hs.mono h7.le) hv hr;refine⟨V5,V6,V7,V8,_,uv,B,_,b5,iw h5.g0,m1,sc,YG h7.g0,iw h7.g0,eQ g37 rfl,λW' kk=>by rw[sf (by omega),aI],f2,a1,a3,h7.mono a2,(a2.get _ (by omega)).trans g37,⟨by omega,by omega,by have:=a2.next;omega,(a2.get _ (by omega)).trans hB7,cc,rfl⟩,wo.2,by have:=a2.next;omega⟩
def To(v:cA)(q:qS):((wT v q).length:Int)=(km v q).1:=by
 unfold wT km;by_cases e:(bZ v q).2=0
 ·rw[ax e,ax e,Dq];show((2*_+1:Nat):Int)=2*_+1;omega
 ·rw[ay e,ay e];rfl
def P4(v:cA)(q:qS)(i:Nat)(a k:Int):iK v q i=((a,k),0)<->∃h:i<(wT v q).length,(wT v q)[i]=(a,k):=by
 unfold iK wT;by_cases e:(bZ v q).2=0
 ·rw[ax e];simp only[ax e];by_cases c:0<=(i:Int)/\(i:Int)<2*((bZ v q).1.length:Int)+1
  ·rw[ax c];have hl:i<(Na (bZ v q).1).length:=by rw[Dq];omega
   have hg:=Ub (bZ v q).1 (i:=i) (by omega);rw[cL hl]at hg;injection hg with hg;constructor
   ·intro h;refine⟨hl,?_⟩;rw[hg];simpa using h
   ·rintro⟨h,h2⟩;rw[hg]at h2;simp only[oY,h2]
  ·rw[ay c];constructor
   ·intro h;simp at h
   ·rintro⟨h,-⟩;rw[Dq]at h;omega
 ·rw[ay e];simp only[ay e];constructor
  ·intro h;simp at h;exact absurd h.2 e
  ·rintro⟨h,-⟩;simp at h
end
def Er(v:cA)(s:RS)(x:de):Int:=if eX s x≠0 then eX s x else cY v s x
def av(z:Nat)(c:ae):Prop:=∀a k m,c=.slice (some a) k m->k≠0->a.block≠z
def Tx{α:Type}{W:AW}{z q:Nat}{f:α->List ae}{c:ae}{l:List α}(h:Rd W z f c l)(hq:W.next<=q):av q c:=by
 obtain⟨a,m,rfl,h⟩:=h;intro a' k m' e hk;injection e with e1 e2 e3;rcases h with h|⟨b,o,cs,rfl,h2,-⟩
 ·rw[h]at e2;exact absurd e2.symm hk
 ·injection e1 with e1;rw[<-e1];show b≠q;omega
def zV{α:Type}{U U':AW}{z n q:Nat}{f:α->List ae}{c0 c:ae}{l:List α}(h:Rd U z f c l)(hf:Sm n c0 c)(ha:av q c0)(hq:q<n)(hn:U.next<=U'.next)(hg:∀d,d≠q->U'.get d=U.get d):Rd U' z f c l:=by
 obtain⟨a,m,rfl,h⟩:=h;refine⟨a,m,rfl,?_⟩;rcases h with h|⟨b,o,cs,rfl,h2,h3,h4⟩
 ·exact .inl h
 by_cases e0:l=[]
 ·exact .inl e0
 have hl:l.length≠0:=λe=>e0 (jR.1 e)
 have hb:b≠q:=by
  rcases hf with e|e
  ·exact ha _ _ _ e.symm hl
  ·have:=e _ _ _ rfl;have:n<=b:=this;omega
 refine .inr ⟨b,o,cs,rfl,by omega,?_,h4⟩;unfold aL at h3|-;rw[hg b hb];exact h3
section
variable {W V U:AW} {v:cA} {sv ev cv lv:ae} {s:RS} {f:Int->Option ei} {tn st:Int} {l:List de} {i:Nat} {x:de} {o:ei}
def adW{b2:Nat}{cs:List ae}(h1:Eng.one sv=true)(h2:Eng.one ev=true)(h3:Eng.one cv=true)(h4:Eng.one lv=true)(g2:U.get b2=some (.cells cs))(hl:cs.length=204)(e:Int):
 ∃U',bP 204 (cr b2) (uT v sv ev cv f lv tn st) U=some (ag,U')/\aF Tryz.prog [(cr b2,some 88),(.af e,none)] U'=some (.tuple #[uT v sv ev cv f lv tn st,.af e],U')/\U'.next=U.next/\∀d,d≠b2->U'.get d=U.get d:=by
 refine⟨_,iY g2 hl h1 h2 h3 h4,?_,rfl,λd hd=>AW.aE _ _ (bL hd)⟩;rw[eT,RY,iF (AW.bz _ _ _)];rfl
def yH.Vq{V8 U:AW}{n:Nat}{c0 l0 val:ae}{e:Int}{s':RS}(h:yH W V8 v sv ev cv f lv tn st x)(h1:Eng.one sv=true)(h2:Eng.one ev=true)(a8:Le V8 U)(hA:EJ U n c0 l0 v sv ev val e s')(hn:W.next+1<n)(ha:av (W.next+1) c0)(hb:av (W.next+1) l0){m:Nat}{c1 l1:ae}(hm:m<=n)
 (hc:Sm m c1 c0)(hd:Sm m l1 l0):∃U',bP 204 (cr (W.next+1)) val U=some (ag,U')/\aF Tryz.prog [(cr (W.next+1),some 88),(.af e,none)] U'=some (.tuple #[val,.af e],U')/\Le W U'/\EJ U' m c1 l1 v sv ev val e s':=by
 have WW:=h.nx;obtain⟨lN,Gp,f',Vf,EA,rfl,a1,a2,a3⟩:=hA;have hln:=a8.next;have ZN:=h.le.next;obtain⟨U',q1,q2,q3,q4⟩:=adW (v:=v) (sv:=sv) (ev:=ev) (cv:=lN) (lv:=Gp) (f:=f') (tn:=Vf) (st:=EA) h1 h2 a1 a2 ((a8.get (W.next+1) (by omega)).trans h.g1) dL e;have ft:∀{p q r:ae},Sm m p q->Sm n q r->Sm m p r:=λ{p q r} g1 g2=>by
  rcases g2 with rfl|g2
  ·exact g1
  ·exact .inr λa k m' e=>gQ hm (g2 a k m' e)
 refine⟨U',q1,q2,⟨by omega,λd hd=>(q4 d (by omega)).trans ((h.le.trans a8).get d hd)⟩,lN,Gp,f',Vf,EA,rfl,a1,a2,λhe=>?_⟩;obtain⟨b1,b2,b3,b4,b5,b6⟩:=a3 he;exact⟨b1,b2,b3,⟨zV b4.c b5 ha hn (by omega) q4,zV b4.l b6 hb hn (by omega) q4⟩,ft hc b5,ft hd b6⟩
open Classical in
def agT(h:yH W V v sv ev cv s.of lv s.tn s.st x)(hC:M4 W v s cv lv)(hI:kZ s)(hr:Hg W ev l)(hx:l[i]? =some x)(hs:eY W sv v.az)(hv:v.az.length<1000)(hrw:∀s∈v.az,s.rows.length<1000)(h1:Eng.one sv=true)(hw:1<=x.wk/\x.wk<=64)(hk:x.k=1\/x.k=5\/x.k=6\/eX s x≠0):
 Ok (gf bm (.af (i:Int)) (cr W.next) (cr (W.next+1)) (cr (W.next+2)) V) λr=>∃val,r.1=.tuple #[val,.af (Er v s x)]/\Le W r.2/\EJ r.2 W.next cv lv v sv ev val (Er v s x) (rN s i x):=by
 have h2:Eng.one ev=true:=row_one hr;have h3:=(ff hC.c).2;have h4:=(ff hC.l).2;have WW:=h.nx;have lk:=pa h.g2;have avc:=Tx hC.c (q:=W.next+1) (by omega);have avl:=Tx hC.l (q:=W.next+1) (by omega);unfold gf;by_cases k1:x.k=1
 ·have d:=aS k1;have e0:Er v s x=cY v s x:=by unfold Er eX;rw[ax k1];rfl
  obtain⟨val,W',a1,a2,a3⟩:=Lz (hr.mono h.le) hx (hC.mono h.le) hI h1 hw k1;obtain⟨U',q1,q2,q3,q4⟩:=h.Vq h1 h2 a2 a3 (by omega) avc avl (m:=W.next) (c1:=cv) (l1:=lv) (by omega) (.inl rfl) (.inl rfl);simp only[SX,aI,lk,d,iF h.g0,a1,q1,q2,am];exact⟨val,by rw[e0],q3,by rw[e0];exact q4⟩
 have d:=bq k1;have lw:=fx h.g2;have li:=fw h.g2;obtain⟨w,Be⟩:∃w:Nat,x.wk=(w:Int):=⟨x.wk.toNat,by omega⟩;have ix:=λW'=>sJ (len:=65) (z:=3) (b:=W.next) (o:=6) (i:=w) (k:=.i64) (W:=W') (by omega)
 rw[<-Be]at ix;have l3:=Lp h.g0 (w:=w) (by omega);rw[<-Be]at l3;cases ho:s.of x.wk with
 |none=>
  rw[ho]at l3;have Qq:bA 3 (.pointer (some ⟨W.next,6+w*3,none⟩)) V=some (.agg #[.af (-1),.af 0,.bool false],V):=l3;obtain⟨V4,b1,b2,b3,b4,b5⟩:=nxO h (-1) 0 false;have e0:Er v s x=4:=by unfold Er eX;rw[ay k1,ho];rfl
  have Lx:aK (cr V.next) V4=some (.af (-1),V4):=eQ b5 rfl;obtain⟨U',q1,q2,q3,q4,q5,q6⟩:=(h.mono b3).fin h1 h2 h3 h4 4;have d2:decide ((-1:Int)<0)=true:=by decide
  simp only[SX,aI,cC,lk,d,lw,ix,Qq,b1,b2,Lx,d2,q1,q2,q3,am];exact⟨_,by rw[e0],q4,.bad (by rw[e0];decide) h3 h4⟩
 |some o=>
 rw[ho]at l3;have Qq:bA 3 (.pointer (some ⟨W.next,6+w*3,none⟩)) V=some (.agg #[.af (o.c:Int),.af (o.s:Int),.bool o.e],V):=l3;obtain⟨V4,b1,b2,b3,b4,b5⟩:=nxO h o.c o.s o.e;have Lx:aK (cr V.next) V4=some (.af (o.c:Int),V4):=eQ b5 rfl;have d2:decide ((o.c:Int)<0)=false:=dS;have AH:=h.mono b3;have mr:=hI.of _ _ ho;obtain⟨B,oo,c1,c2⟩:=ClL.get (wM dA (hC.c.dq AH.le)) mr;obtain⟨-,c3,-,-⟩:=c2 V4 rfl;rw[<-pD mr]at c3;by_cases id:(aZ s o.c).id=x.id;case neg=>
  have d3:=bq id;have e0:Er v s x=4:=by unfold Er eX;rw[ay k1,ho];simp only[ne_eq,id,not_false_eq_true,bh];rfl
  obtain⟨U',q1,q2,q3,q4,q5,q6⟩:=AH.fin h1 h2 h3 h4 4;simp only[SX,aI,cC,lk,d,lw,ix,Qq,b1,b2,Lx,d2,fw AH.g2,iw AH.g0,c1,c3,d3,q1,q2,q3,am];exact⟨_,by rw[e0],q4,.bad (by rw[e0];decide) h3 h4⟩
 have d3:=aS id;have en:eX s x=0:=by unfold eX;rw[ay k1,ho];simp only[ne_eq,id,ve,bR]
 have e0:Er v s x=cY v s x:=by unfold Er;rw[en];rfl
 have k56:x.k=5\/x.k=6:=by rcases hk with hk|hk|hk|hk;exact absurd hk k1;exact .inl hk;exact .inr hk;exact absurd en hk
 obtain⟨V5,V6,V7,V8,u,uv,B2,se,p1,p2,p3,p4,p5,p6,p7,p8,p9,Xa,p11,MF,p13,⟨p14,p15,p16,p17,cc,p18⟩,Ru,p20⟩:=ZB AH hC hI ho hs hv hrw (b3:=V.next) ⟨by omega,by omega⟩ b5;have hu:Rd V8 26 gq u s.cl:=⟨_,_,p18,.inr ⟨B2,0,_,rfl,p16,bk p17,by rw[kN,<-ch dA s.cl,dd]⟩⟩;have avu:av (W.next+1) u:=λa k m e hk=>by rw[p18]at e;injection e with e;injection e with e;rw[<-e];show B2≠_;omega
 have fu:Sm W.next cv u:=.inr λa k m e=>by rw[p18]at e;injection e with e;injection e with e;rw[<-e];show _<=B2;omega
 have ln:∀W',aB Tryz.prog .len #[130] 3 #[false] [uv] W'=some (.af (km v (aZ s o.c).op).1,W'):=λW'=>by rw[<-To];exact Row.len p11 ZA W' 3 #[false]
 have n8:=MF.nx;have Xh:=pa MF.g2;have Zj:aK (.pointer (some ⟨V.next,1,none⟩)) V8=some (.af (o.s:Int),V8):=eQ p13 rfl;have lci:aK (cr V.next) V8=some (.af (o.c:Int),V8):=eQ p13 rfl;rcases k56 with k5|k6
 ·have d5:=aS k5;have hE:cY v s x=if(o.s:Int)<(km v (aZ s o.c).op).1 then 6 else 0:=by unfold cY;rw[ay k1,ho];simp only[ax k5]
  by_cases e1:(o.s:Int)<(km v (aZ s o.c).op).1
  ·have d6:=aS e1;rw[ax e1]at hE;obtain⟨U',q1,q2,q3,q4,q5,q6⟩:=MF.fin h1 h2 Ru h4 6;simp only[SX,aI,cC,lk,d,lw,ix,Qq,b1,b2,Lx,d2,fw AH.g2,iw AH.g0,c1,c3,d3,p1,p2,p3,p4,p5,p6,p7,p8,p9,Xa,Xh,d5,Zj,ln,d6,q1,q2,q3,am];exact⟨_,by rw[e0,hE],q4,.bad (by rw[e0,hE];decide) Ru h4⟩
  have d6:=bq e1;rw[ay e1]at hE;have st1:=Pd p17 mr (i:Int);obtain⟨V9,Rl⟩:∃V9,V9=V8.put B2 (.cells ((s.cl.set o.c {s.cl[o.c]with an:=(i:Int)}).flatMap gq)):=⟨_,rfl⟩;rw[<-Rl]at st1;have n9:V9.next=V8.next:=by rw[Rl];rfl
  have o9:∀d,d≠B2->V9.get d=V8.get d:=λd hd=>by rw[Rl];exact AW.aE _ _ (bL hd)
  have gB9:V9.get B2=some (.cells ((s.cl.set o.c {s.cl[o.c]with an:=(i:Int)}).flatMap gq)):=by rw[Rl];exact AW.bz _ _ _
  have h9:yH W V9 v sv ev u s.of lv s.tn s.st x:=MF.far (by omega) λd hd=>o9 d (by omega)
  have so:=OS h9.g0 (w:=w) (by omega) none;have so':bP 3 (.pointer (some ⟨W.next,6+w*3,none⟩)) (.agg #[.af (-1),.af 0,.bool false]) V9=_:=so;have yL:=h9.put u (λk=>if k=(w:Int)then none else s.of k) lv s.tn s.st;obtain⟨V10,abh⟩:∃V10,V10=V9.put W.next (.cells (eV v sv ev u (λk=>if k=(w:Int)then none else s.of k) lv s.tn s.st)):=⟨_,rfl⟩;rw[<-abh]at so' yL;have alR:V10.get B2=some (.cells ((s.cl.set o.c {s.cl[o.c]with an:=(i:Int)}).flatMap gq)):=by rw[abh];exact(AW.aE _ _ (by omega)).trans gB9
  have n10:V10.next=V9.next:=by rw[abh];rfl
  obtain⟨U',q1,q2,q3,q4,q5,q6⟩:=yL.fin h1 h2 Ru h4 0;have bd:=afc (-1);simp only[SX,aI,cC,lk,d,lw,ix,Qq,b1,b2,Lx,d2,fw AH.g2,iw AH.g0,c1,c3,d3,p1,p2,p3,p4,p5,p6,p7,p8,p9,Xa,Xh,d5,Zj,ln,d6,iw MF.g0,lci,st1,fx h9.g2,bd,so',q1,q2,q3,am];refine⟨_,by rw[e0,hE],q4,u,lv,_,_,_,rfl,Ru,h4,λ_=>?_⟩;have er:rN s i x={s with cl:=s.cl.set o.c {s.cl[o.c]with an:=(i:Int)},of:=λw=>if w=x.wk then none else s.of w}:=by unfold rN;rw[ay k1,ho];simp only[ax k5,BO mr]
  rw[er];refine⟨by rw[Be],rfl,rfl,⟨?_,hC.l.dq q4⟩,fu,.inl rfl⟩;refine⟨_,_,by rw[kp];exact p18,.inr ⟨B2,0,_,rfl,by omega,bk ((q6 _ (by omega)).trans alR),?_⟩⟩;rw[kN,<-ch dA,dd]
 ·have d5:decide (x.k=5)=false:=dS;have d6:=aS k6;have l8:Le W V8:=MF.le;obtain⟨val,W',a1,a2,a3⟩:=M9 (hr.mono l8) hx ⟨hu,hC.l.dq l8⟩ hI h1 hw k6 ho;obtain⟨U',q1,q2,q3,q4⟩:=MF.Vq h1 h2 a2 a3 (by omega) avu avl (m:=W.next) (c1:=cv) (l1:=lv) (by omega) fu (.inl rfl);simp only[SX,aI,cC,lk,d,lw,ix,Qq,b1,b2,Lx,d2,fw AH.g2,iw AH.g0,c1,c3,d3,p1,p2,p3,p4,p5,p6,p7,p8,p9,Xa,Xh,d5,d6,iF MF.g0,a1,q1,q2,am];exact⟨val,by rw[e0],q3,by rw[e0];exact q4⟩
end
end Go.Proofs.YtekljimefjclgaaGreatDoor
