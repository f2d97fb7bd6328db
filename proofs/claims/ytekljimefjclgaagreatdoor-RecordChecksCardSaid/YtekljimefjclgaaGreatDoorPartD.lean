/- A part: contracts and laws. -/
import Derived.Test.YtekljimefjclgaaGreatDoorPartC
set_option linter.unusedVariables false
set_option linter.unusedSimpArgs false
set_option linter.unusedSectionVars false
set_option linter.defProp false
noncomputable section
open Go renaming TypeId->ai,Value->ae,undef->ag
set_option maxRecDepth 100000
namespace Go.Proofs.YtekljimefjclgaaGreatDoor
open Go Go.Eng
structure HU where
 er:Int
 se:Int
 n:Int
 dl:Int
 t1:Int
 t2:Int
 t3:Int
 t4:Int
 pl:Int
structure IB where
 se:Int
 sr:Int
 ep:Int
 ga:Int
 ti:Int
structure eg where
 k:Int
 tn:Int
 wk:Int
 id:Int
 lk:Int
 op:pV
 rp:HU
 en:IB
structure oK where
 id:Int
 wk:Int
 op:pV
 rp:HU
 ar:Int
 co:Int
 an:Int
def EP:pV:=⟨0,0,0,0,0,0,0,0,0,0,0,0⟩
def uM:HU:=⟨0,0,0,0,0,0,0,0,0⟩
def Cu:IB:=⟨0,0,0,0,0⟩
def rd0:eg:=⟨0,0,0,0,0,EP,uM,Cu⟩
def cl0:oK:=⟨0,0,EP,uM,0,0,0⟩
abbrev rpC(r:HU):List ae:=[.af r.er,.af r.se,.af r.n,.af r.dl,.int .u32 r.t1,.int .u32 r.t2,.int .u64 r.t3,.int .u64 r.t4,.af r.pl]
abbrev Ua(g:IB):List ae:=[.int .u32 g.se,.int .u64 g.sr,.int .u64 g.ep,.af g.ga,.af g.ti]
abbrev eY(e:eg):List ae:=[.af e.k,.af e.tn,.af e.wk,.af e.id,.af e.lk,.af e.op.k,.int .u32 e.op.ow,.af e.op.un,.af e.op.se,.af e.op.sc,.af e.op.n,.int .u32 e.op.to,.int .u32 e.op.t1,.int .u32 e.op.t2,.int .u64 e.op.t3,.int .u64 e.op.t4,.af e.op.nw,
 .af e.rp.er,.af e.rp.se,.af e.rp.n,.af e.rp.dl,.int .u32 e.rp.t1,.int .u32 e.rp.t2,.int .u64 e.rp.t3,.int .u64 e.rp.t4,.af e.rp.pl,.int .u32 e.en.se,.int .u64 e.en.sr,.int .u64 e.en.ep,.af e.en.ga,.af e.en.ti]
abbrev fG(e:oK):List ae:=[.af e.id,.af e.wk,.af e.op.k,.int .u32 e.op.ow,.af e.op.un,.af e.op.se,.af e.op.sc,.af e.op.n,.int .u32 e.op.to,.int .u32 e.op.t1,.int .u32 e.op.t2,.int .u64 e.op.t3,.int .u64 e.op.t4,.af e.op.nw,
 .af e.rp.er,.af e.rp.se,.af e.rp.n,.af e.rp.dl,.int .u32 e.rp.t1,.int .u32 e.rp.t2,.int .u64 e.rp.t3,.int .u64 e.rp.t4,.af e.rp.pl,.af e.ar,.af e.co,.af e.an]
abbrev GZ(r:HU):ae:=.agg (rpC r).toArray
abbrev Ql(g:IB):ae:=.agg (Ua g).toArray
abbrev BF(e:eg):ae:=.agg (eY e).toArray
abbrev OZ(e:oK):ae:=.agg (fG e).toArray
abbrev cp(b:Nat):ae:=.pointer (some ⟨b,0,none⟩)
def gH{b o:Nat}{cs:List ae}{x:ae}{W:AW}(h:W.get b=some (.cells cs))(hv:cs[o]? =some x):aJ (.pointer (some ⟨b,o,none⟩)) W=some (x,W):=cU (bm h) hv
def Fa{W:AW}{b:Nat}{cs:List ae}(h:W.get b=some (.cells cs)):aF W b=some cs:=by unfold aF;rw[h]
def Ia{cs vs:List ae}(h:cs.length=vs.length):fN cs 0 vs=vs:=by unfold fN;rw[rY,lu,aK,<-h,List.drop_length,iD]
def tJ{n b:Nat}{cs:List ae}{vs:Array ae}{W:AW}(h:W.get b=some (.cells cs))(h1:cs.length=n)(h2:vs.size=n)(h3:vs.toList.all Eng.one=true):bU n (.pointer (some ⟨b,0,none⟩)) (.agg vs) W=some (ag,W.put b (.cells vs.toList)):=by have hl:=Array.length_toList (xs:=vs);rw[sY,Fa h,bq,ax ⟨h2,by omega,h3⟩,Ia (by omega)]
def XW(W:AW):bc Tryz.prog 98 W=some (cp W.next,W.add (.cells (eY rd0))):=aH (by kernel_rfl) rfl
def aaO(W:AW):bc Tryz.prog 45 W=some (cp W.next,W.add (.cells (fG cl0))):=aH (by kernel_rfl) rfl
def ac1(W:AW):bc Tryz.prog 39 W=some (cp W.next,W.add (.cells [.int .u32 0,.int .u32 0,.int .u64 0,.int .u64 0])):=aH (by kernel_rfl) rfl
def ahe(W:AW):bc Tryz.prog 60 W=some (cp W.next,W.add (.cells (Ua Cu))):=aH (by kernel_rfl) rfl
def tA(e:eg)(W:AW):cC (BF e) W=some (cp W.next,W.add (.cells (eY e))):=iR _
def Pk(e:eg)(W:AW):bU 31 (cp W.next) (BF e) (W.add (.cells (eY rd0)))=some (ag,W.add (.cells (eY e))):=by have:=tJ (n:=31) (vs:=(eY e).toArray) (AW.a8 W (.cells (eY rd0))) rfl rfl rfl;rwa [im]at this
def Wh(e:oK)(W:AW):bU 26 (cp W.next) (OZ e) (W.add (.cells (fG cl0)))=some (ag,W.add (.cells (fG e))):=by have:=tJ (n:=26) (vs:=(fG e).toArray) (AW.a8 W (.cells (fG cl0))) rfl rfl rfl;rwa [im]at this
def Zz(k tn wk id:Int)(W:AW):bH Tryz.prog 98 [(0,.af k),(1,.af tn),(2,.af wk),(3,.af id)] W=some (BF ⟨k,tn,wk,id,0,EP,uM,Cu⟩,W):=aH (by kernel_rfl) rfl
def ab1(W:AW):bH Tryz.prog 41 [] W=some (yb EP,W):=aH (by kernel_rfl) rfl
def abU(W:AW):bH Tryz.prog 43 [] W=some (GZ uM,W):=aH (by kernel_rfl) rfl
def afa(W:AW):bH Tryz.prog 60 [] W=some (Ql Cu,W):=aH (by kernel_rfl) rfl
section
variable {W:AW} {b:Nat} {e:eg} {c:oK}
def kQ(x:W.get b=some (.cells (eY e))):bA 31 (cp b) W=some (BF e,W):=fy (bm x) rfl
def qX(x:W.get b=some (.cells (eY e))):aJ (cp b) W=some (.af e.k,W):=gH x rfl
def uf(x:W.get b=some (.cells (eY e))):aJ (.pointer (some ⟨b,1,none⟩)) W=some (.af e.tn,W):=gH x rfl
def eK(x:W.get b=some (.cells (eY e))):aJ (.pointer (some ⟨b,2,none⟩)) W=some (.af e.wk,W):=gH x rfl
def fa(x:W.get b=some (.cells (eY e))):aJ (.pointer (some ⟨b,3,none⟩)) W=some (.af e.id,W):=gH x rfl
def rA(x:W.get b=some (.cells (eY e))):aJ (.pointer (some ⟨b,4,none⟩)) W=some (.af e.lk,W):=gH x rfl
def rL(x:W.get b=some (.cells (eY e))):bA 12 (.pointer (some ⟨b,5,none⟩)) W=some (yb e.op,W):=fy (bm x) rfl
def wQ(x:W.get b=some (.cells (eY e))):bA 9 (.pointer (some ⟨b,17,none⟩)) W=some (GZ e.rp,W):=fy (bm x) rfl
def EF(x:W.get b=some (.cells (eY e))):bA 5 (.pointer (some ⟨b,26,none⟩)) W=some (Ql e.en,W):=fy (bm x) rfl
end
def pM{α:Type}(z:Nat)(f:α->List ae)(cs:List ae)(p:Nat)(e:α):Prop:=(cs.drop p).take z=f e
def Jo{α:Type}{z:Nat}{f:α->List ae}{cs:List ae}{p:Nat}{e:α}(h:pM z f cs p e){j:Nat}(hj:j<z):cs[p+j]? =(f e)[j]? :=by unfold pM at h;rw[<-h,ks,ax hj,sn]
def xY{α:Type}{z:Nat}{f:α->List ae}(hf:∀a,(f a).length=z)(a:α)(pre post:List ae):pM z f (pre++(f a++post)) pre.length a:=by unfold pM;rw[vn,<-hf a,ws]
abbrev KJ(W:AW)(v:ae)(l:List eg):Prop:=Row W 31 (pM 31 eY) v l
abbrev Jk(W:AW)(v:ae)(l:List oK):Prop:=Row W 26 (pM 26 fG) v l
def Ts(e:eg):(eY e).length=31:=rfl
def cQ(e:oK):(fG e).length=26:=rfl
def zZ(e:oK):(fG e).all Eng.one=true:=rfl
def FH:((#[25]:Array ai)[0]?).bind Tryz.prog.underlying=some (.slice 98):=by kernel_rfl
def Kz:((#[33]:Array ai)[0]?).bind Tryz.prog.underlying=some (.slice 45):=by kernel_rfl
def KJ.get{W:AW}{v:ae}{l:List eg}(h:KJ W v l){i:Nat}(hi:i<l.length):
 ∃p,(∀W' k,iY 31 v (.int k (i:Int)) W'=some (p,W'))/\∀W',Le W W'->bA 31 p W'=some (BF l[i],W'):=by
 obtain⟨b,o,cs,h1,h2,h3,h4⟩:=h.elem hi;refine⟨_,h1,λW' bi=>?_⟩;have e0:(cs.drop o).take 31=eY l[i]:=h4;have:=fy (n:=31) (o:=o) (W:=W') (by rw[bi.aI h2];exact h3) (by rw[e0];rfl);rw[e0]at this;exact this
def g41:Tryz.prog.eqGuardType Tryz.prog.depth 41=false:=by kernel_rfl
def g43:Tryz.prog.eqGuardType Tryz.prog.depth 43=false:=by kernel_rfl
def g60:Tryz.prog.eqGuardType Tryz.prog.depth 60=false:=by kernel_rfl
def g98:Tryz.prog.eqGuardType Tryz.prog.depth 98=false:=by kernel_rfl
def q43(x y:HU):xU Tryz.prog 8 43 (GZ x) (GZ y)=pI (match ke [(x.t1,y.t1),(x.t2,y.t2),(x.t3,y.t3),(x.t4,y.t4)]with|some true=>ke [(x.pl,y.pl)]|some false=>some false|none=>none) [(x.er,y.er),(x.se,y.se),(x.n,y.n),(x.dl,y.dl)]:=by kernel_rfl
def q60(x y:IB):xU Tryz.prog 8 60 (Ql x) (Ql y)=ke [(x.se,y.se),(x.sr,y.sr),(x.ep,y.ep),(x.ga,y.ga),(x.ti,y.ti)]:=by kernel_rfl
def opQ(x y:pV):Option Bool:=pI (match ke [(x.t1,y.t1),(x.t2,y.t2),(x.t3,y.t3),(x.t4,y.t4)]with|some true=>ke [(x.nw,y.nw)]|some false=>some false|none=>none) [(x.k,y.k),(x.ow,y.ow),(x.un,y.un),(x.se,y.se),(x.sc,y.sc),(x.n,y.n),(x.to,y.to)]
def rpQ(x y:HU):Option Bool:=pI (match ke [(x.t1,y.t1),(x.t2,y.t2),(x.t3,y.t3),(x.t4,y.t4)]with|some true=>ke [(x.pl,y.pl)]|some false=>some false|none=>none) [(x.er,y.er),(x.se,y.se),(x.n,y.n),(x.dl,y.dl)]
def gtQ(x y:IB):Option Bool:=ke [(x.se,y.se),(x.sr,y.sr),(x.ep,y.ep),(x.ga,y.ga),(x.ti,y.ti)]
def OQ(o r:Option Bool):Option Bool:=match o with|some true=>r|some false=>some false|none=>none
def q98(x y:eg):xU Tryz.prog 8 98 (BF x) (BF y)=pI (OQ (opQ x.op y.op) (OQ (rpQ x.rp y.rp) (OQ (gtQ x.en y.en) (some true)))) [(x.k,y.k),(x.tn,y.tn),(x.wk,y.wk),(x.id,y.id),(x.lk,y.lk)]:=by kernel_rfl
def Vu{r:Option Bool}{rb:Bool}(hr:r=some rb)(l:List (Int×Int)):(match ke l with|some true=>r|some false=>some false|none=>none)=some ((l.all λp=>p.1==p.2)&&rb):=by
 rw[jW];cases l.all λp=>p.1==p.2 with
 |true=>rw[je];exact hr
 |false=>rfl
def wC(a b:Bool):OQ (some a) (some b)=some (a&&b):=by cases a<;>rfl
def pV.kX{x y:pV}:x=y<->x.k=y.k/\x.ow=y.ow/\x.un=y.un/\x.se=y.se/\x.sc=y.sc/\x.n=y.n/\x.to=y.to/\x.t1=y.t1/\x.t2=y.t2/\x.t3=y.t3/\x.t4=y.t4/\x.nw=y.nw:=by cases x;cases y;simp
def HU.kX{x y:HU}:x=y<->x.er=y.er/\x.se=y.se/\x.n=y.n/\x.dl=y.dl/\x.t1=y.t1/\x.t2=y.t2/\x.t3=y.t3/\x.t4=y.t4/\x.pl=y.pl:=by cases x;cases y;simp
def IB.kX{x y:IB}:x=y<->x.se=y.se/\x.sr=y.sr/\x.ep=y.ep/\x.ga=y.ga/\x.ti=y.ti:=by cases x;cases y;simp
def eg.kX{x y:eg}:x=y<->x.k=y.k/\x.tn=y.tn/\x.wk=y.wk/\x.id=y.id/\x.lk=y.lk/\x.op=y.op/\x.rp=y.rp/\x.en=y.en:=by cases x;cases y;simp
open Classical in
def Jr(x y:pV):opQ x y=some (decide (x=y)):=by unfold opQ;rw[Vu (jW _),mA];congr 1;rw[oi];simp only[eP,md,lO,bB,kH,lP,pV.kX,and_assoc]
open Classical in
def Jy(x y:HU):rpQ x y=some (decide (x=y)):=by unfold rpQ;rw[Vu (jW _),mA];congr 1;rw[oi];simp only[eP,md,lO,bB,kH,lP,HU.kX,and_assoc]
open Classical in
def Q2(x y:IB):gtQ x y=some (decide (x=y)):=by unfold gtQ;rw[jW];congr 1;rw[oi];simp only[eP,md,lO,bB,kH,lP,IB.kX]
open Classical in
def acs(x y:HU)(c d:Bool)(W:AW):aw Tryz.prog .neq 43 c d (GZ x) (GZ y) W=some (.bool (!decide (x=y)),W):=
 gg g43 ((q43 x y).trans (Jy x y))
open Classical in
def afb(x y:IB)(c d:Bool)(W:AW):aw Tryz.prog .neq 60 c d (Ql x) (Ql y) W=some (.bool (!decide (x=y)),W):=
 gg g60 ((q60 x y).trans (Q2 x y))
def q41(x y:pV):xU Tryz.prog 8 41 (yb x) (yb y)=opQ x y:=by kernel_rfl
open Classical in
def abV(x y:pV)(c d:Bool)(W:AW):aw Tryz.prog .neq 41 c d (yb x) (yb y) W=some (.bool (!decide (x=y)),W):=
 gg g41 ((q41 x y).trans (Jr x y))
open Classical in
def aa9(x y:eg)(c d:Bool)(W:AW):aw Tryz.prog .neq 98 c d (BF x) (BF y) W=some (.bool (!decide (x=y)),W):=by refine gg g98 ((q98 x y).trans ?_);rw[Jr,Jy,Q2,wC,wC,wC,mA];congr 1;rw[oi];simp only[eP,md,lO,bB,kH,lP,eg.kX,and_assoc]
def Wx(o:pV):Int:=py o.k o.ow o.un o.se o.sc o.n o.to o.t1 o.t2 o.t3 o.t4 o.nw
def Nq(o:pV){W:AW}(h:GW W):bl (.func (.func 75) #[] #[]) [yb o] W=some (.af (Wx o),W):=vd _ _ _ _ _ _ _ _ _ _ _ _ h
def L8(o:pV)(W:AW):bl (.func (.func 79) #[] #[]) [yb o] W=some (.af (Wx o),W):=yk _ _ _ _ _ _ _ _ _ _ _ _ W
structure dZ where
 c:Nat
 s:Nat
 e:Bool
structure RS where
 cl:List oK
 of:Int->Option dZ
 lk:Int->Option Int
 tn:Int
 st:Int
def RS.init:RS:=⟨[],λ_=>none,λ_=>none,0,-1⟩
def oE(x:eg):Bool:=decide (2<=x.k)&&decide (x.k<=4)
def gB(x:eg):eg:=⟨x.k,x.tn,x.wk,x.id,if x.k=2\/x.k=4 then x.lk else 0,if x.k=1 then x.op else EP,if x.k=3 then x.rp else uM,if x.k=6 then x.en else Cu⟩
open Classical in
def dM(s:RS)(x:eg):Int:=
 if x.k<1\/6<x.k then 2 else
 if x≠gB x then 2 else
 if x.tn<0\/1000000000<x.tn\/x.wk<1\/64<x.wk then 7 else
 if x.tn<s.tn\/(oE x=true/\x.tn<=s.st)then 18 else 0
def bh(s:RS)(c:Nat):oK:=s.cl.getD c cl0
def jI(k:Int):Int:=if k=2 then 1 else if k=3 then 2 else 3
def AE(c:oK)(o:dZ)(y:IB):Prop:=
 c.op.k=9/\0<=c.co/\c.rp.er=0/\o.e=false/\y.se=c.op.t1/\y.sr=c.op.t3/\y.ep=c.op.t4/\0<=y.ga/\y.ga<8/\0<=y.ti
open Classical in
def th(v:cT)(s:RS)(x:eg):Int:=
 if dM s x≠0 then dM s x else
 if x.k=1 then
  (if(s.of x.wk).isSome=true then 8 else if s.cl.length=200 then 3 else if x.id≠(s.cl.length:Int)+1 then 6 else Wx x.op)
 else match s.of x.wk with
  |none=>4
  |some o=>
   if(bh s o.c).id≠x.id then 4 else
   if x.k=5 then(if(o.s:Int)<(lF v (bh s o.c).op).1 then 6 else 0)else
   if x.k=6 then(if AE (bh s o.c) o x.en then 0 else 6)else
   if iN v (bh s o.c).op o.s≠((jI x.k,x.lk),0)then 6 else
   if x.k=2/\(s.lk x.lk).isSome=true then 20 else 0
def xK(l:List oK)(c:Nat)(f:oK->oK):List oK:=match l[c]? with
 |some x=>l.set c (f x)
 |none=>l
def Hj(s:RS)(i:Nat)(x:eg):RS:=
 let t:=if oE x=true then x.tn else s.st
 if x.k=1 then⟨s.cl++[⟨x.id,x.wk,x.op,uM,i,-1,-1⟩],λw=>if w=x.wk then some ⟨s.cl.length,0,false⟩else s.of w,s.lk,x.tn,t⟩
 else match s.of x.wk with
  |none=>s
  |some o=>
   if x.k=5 then⟨xK s.cl o.c λc=>{c with an:=i},λw=>if w=x.wk then none else s.of w,s.lk,x.tn,t⟩else
   if x.k=6 then⟨s.cl,λw=>if w=x.wk then some ⟨o.c,o.s,true⟩else s.of w,s.lk,x.tn,t⟩else
   ⟨if x.k=3 then xK s.cl o.c λc=>{c with co:=i,rp:=x.rp}else s.cl,λw=>if w=x.wk then some ⟨o.c,o.s+1,o.e⟩else s.of w,
     λk=>if k=x.lk then(if x.k=2 then some x.id else if x.k=4 then none else s.lk k)else s.lk k,x.tn,t⟩
inductive fk (v:cT) (l:List eg):Nat->RS->Prop
 |zero:fk v l 0 RS.init
 |succ {k:Nat} {s:RS} {x:eg}:fk v l k s->l[k]? =some x->th v s x=0->fk v l (k+1) (Hj s k x)
def fk.VE{v:cT}{l:List eg}{k:Nat}{s s':RS}(h:fk v l k s)(h':fk v l k s'):s=s':=by
 induction h generalizing s' with
 |zero=>cases h';rfl
 |succ h hx _ ih=>
  cases h' with
  |succ h2 hx2 _=>rw[hx]at hx2;injection hx2 with hx2;subst hx2;rw[ih h2]
def fk.prev{v:cT}{l:List eg}{k:Nat}{s:RS}(h:fk v l (k+1) s):∃s0 x,fk v l k s0/\l[k]? =some x/\th v s0 x=0/\s=Hj s0 k x:=by
 cases h with
 |succ h hx he=>exact⟨_,_,h,hx,he,rfl⟩
def fk.pre{v:cT}{l:List eg}{k:Nat}{s:RS}(h:fk v l k s):∀j,j<=k->∃s',fk v l j s':=by
 induction h with
 |zero=>intro j hj;obtain rfl:j=0:=by omega
        exact⟨_,.zero⟩
 | @succ k s x h hx he ih=>
  intro j hj;by_cases e:j=k+1
  ·subst e;exact⟨_,.succ h hx he⟩
  ·exact ih j (by omega)
structure na (s:RS):Prop where
 ids:∀(j:Nat) (c:oK),s.cl[j]? =some c->c.id=(j:Int)+1
 of:∀(w:Int) (o:dZ),s.of w=some o->o.c<s.cl.length
 len:s.cl.length<=200
 wk:∀(w:Int) (o:dZ),s.of w=some o->1<=w/\w<=64
 steps:∀(w:Int) (o:dZ),s.of w=some o->o.s<=49
def pe(l:List oK)(c:Nat)(f:oK->oK):(xK l c f).length=l.length:=by
 unfold xK;split
 ·exact nf
 ·rfl
def HJ(l:List oK)(c:Nat)(f:oK->oK)(j:Nat):(xK l c f)[j]? =(l[j]?).map λx=>if j=c then f x else x:=by
 unfold xK;by_cases e:c=j
 ·subst e;cases h:l[c]? with
  |none=>simp only[h,Option.map_none]
  |some o=>have:=(dV.1 h).1;simp only[rH,bk,this,cD]
 ·cases h:l[c]? with
  |none=>simp only[ay (bL e),Option.map_id']
  |some o=>simp only[rH,ay e,ay (bL e),Option.map_id']
def uh{s:RS}{x:eg}(h:dM s x=0):(1<=x.k/\x.k<=6)/\x=gB x/\(0<=x.tn/\x.tn<=1000000000)/\(1<=x.wk/\x.wk<=64)/\s.tn<=x.tn/\(oE x=true->s.st<x.tn):=by
 unfold dM at h;split at h
 ·omega
 rename_i h1;split at h
 ·omega
 rename_i h2;split at h
 ·omega
 rename_i h3;split at h
 ·omega
 rename_i h4;refine⟨by omega,zM.1 h2,by omega,by omega,by omega,λho=>?_⟩;simp only[not_or,not_and]at h4;have:=h4.2 ho;omega
def G8{v:cT}{o:pV}{i:Nat}{a b:Int}(h:iN v o i=((a,b),0)):i<2*(cO v o).1.length+1/\(cO v o).2=0:=by
 unfold iN at h;by_cases c1:(cO v o).2=0
 ·rw[ax c1]at h;by_cases c2:0<=(i:Int)/\(i:Int)<2*((cO v o).1.length:Int)+1
  ·exact⟨by omega,c1⟩
  ·rw[ay c2]at h;simp at h
 ·rw[ay c1]at h;simp at h;exact absurd h.2 c1
def fk.inv{v:cT}{l:List eg}{k:Nat}{s:RS}(h:fk v l k s):na s:=by
 induction h with
 |zero=>exact⟨by simp[RS.init],by simp[RS.init],by simp[RS.init],by simp[RS.init],by simp[RS.init]⟩
 | @succ k s x eA hx he ih=>
  unfold th at he;by_cases c0:dM s x=0;case neg=>rw[ax c0]at he;exact absurd he c0
  rw[ay (by simpa using c0)]at he;obtain⟨hk,hb,ht,hw,-,-⟩:=uh c0;unfold Hj;by_cases c1:x.k=1
  ·rw[ax c1]at he;simp only[ax c1];split at he
   ·omega
   split at he
   ·omega
   split at he
   ·omega
   rename_i h1 h2 h3;refine⟨λj c hc=>?_,λw o ho=>?_,by simp;have:=ih.len;omega,λw o ho=>?_,λw o ho=>?_⟩
   ·simp only[ul]at hc;split at hc
    ·exact ih.ids j c hc
    ·rename_i hj;have:j=s.cl.length:=by
      by_cases e:j-s.cl.length=0
      ·omega
      ·rw[pH (by simp;omega)]at hc;cases hc
     subst this;simp at hc;subst hc;exact zM.1 h3
   ·simp only at ho;split at ho
    ·injection ho with ho;subst ho;simp
    ·have:=ih.of w o ho;simp;omega
   ·simp only at ho;split at ho
    ·omega
    ·exact ih.wk w o ho
   ·simp only at ho;split at ho
    ·injection ho with ho;subst ho;simp
    ·exact ih.steps w o ho
  ·rw[ay c1]at he;simp only[ay c1];cases ho:s.of x.wk with
   |none=>rw[ho]at he;exact absurd (show(4:Int)=0 from he) (by decide)
   |some o=>
    rw[ho]at he;simp only at he|-;have lm:=ih.of _ _ ho;split at he
    ·omega
    by_cases c5:x.k=5
    ·simp only[ax c5];refine⟨λj c hc=>?_,λw o' gJ=>?_,by simp only[pe];exact ih.len,λw o' gJ=>?_,λw o' gJ=>?_⟩
     ·rw[HJ]at hc;cases hj:s.cl[j]? with
      |none=>rw[hj]at hc;cases hc
      |some y=>rw[hj]at hc;simp only[cD,fI]at hc;have:=ih.ids j y hj;subst hc;split<;>exact this
     ·simp only[pe]at gJ|-;split at gJ
      ·cases gJ
      ·exact ih.of w o' gJ
     ·simp only at gJ;split at gJ
      ·cases gJ
      ·exact ih.wk w o' gJ
     ·simp only at gJ;split at gJ
      ·cases gJ
      ·exact ih.steps w o' gJ
    ·rw[ay c5]at he;simp only[ay c5];by_cases c6:x.k=6
     ·simp only[ax c6];refine⟨ih.ids,λw o' gJ=>?_,ih.len,λw o' gJ=>?_,λw o' gJ=>?_⟩
      ·simp only at gJ;split at gJ
       ·injection gJ with gJ;subst gJ;exact lm
       ·exact ih.of w o' gJ
      ·simp only at gJ;split at gJ
       ·omega
       ·exact ih.wk w o' gJ
      ·simp only at gJ;split at gJ
       ·injection gJ with gJ;subst gJ;exact(ih.steps _ _ ho:o.s<=49)
       ·exact ih.steps w o' gJ
     ·rw[ay c6]at he;simp only[ay c6];split at he
      ·omega
      rename_i px;have gY:=(G8 (zM.1 px)).1;have bi:=pR v (bh s o.c).op;refine⟨λj c hc=>?_,λw o' gJ=>?_,?_,λw o' gJ=>?_,λw o' gJ=>?_⟩
      ·split at hc
       ·rw[HJ]at hc;cases hj:s.cl[j]? with
        |none=>rw[hj]at hc;cases hc
        |some y=>rw[hj]at hc;simp only[cD,fI]at hc;have:=ih.ids j y hj;subst hc;split<;>exact this
       ·exact ih.ids j c hc
      ·simp only at gJ|-;split at gJ
       ·injection gJ with gJ;subst gJ;split
        ·rw[pe];exact lm
        ·exact lm
       ·split
        ·rw[pe];exact ih.of w o' gJ
        ·exact ih.of w o' gJ
      ·simp only;split
       ·rw[pe];exact ih.len
       ·exact ih.len
      ·simp only at gJ;split at gJ
       ·omega
       ·exact ih.wk w o' gJ
      ·simp only at gJ;split at gJ
       ·injection gJ with gJ;subst gJ;simp only;omega
       ·exact ih.steps w o' gJ
inductive uu (v:cT) (l:List eg):Int->Int->Prop
 |VV:(eR v).2≠0->uu v l (-1) (eR v).2
 |len:(eR v).2=0->2000<l.length->uu v l (-1) 3
 |bad {k:Nat} {s:RS} {x:eg}:(eR v).2=0->l.length<=2000->fk v l k s->l[k]? =some x->th v s x≠0->uu v l (k:Int) (th v s x)
 |ok {s:RS}:(eR v).2=0->l.length<=2000->fk v l l.length s->uu v l 0 0
def fk.UE{v:cT}{l:List eg}{k k':Nat}{s s':RS}{x x':eg}(h:fk v l k s)(hx:l[k]? =some x)(he:th v s x≠0)(h':fk v l k' s')(O0:l[k']? =some x')(he':th v s' x'≠0):k=k'/\s=s'/\x=x':=by
 have key:∀{k k':Nat} {s s':RS} {x:eg},fk v l k s->l[k]? =some x->th v s x≠0->fk v l k' s'->k<k'->False:=λ{k k' s s' x} h hx he h' gY=>by obtain⟨s1,h1⟩:=h'.pre (k+1) gY;obtain⟨s0,y,h2,h3,h4,-⟩:=h1.prev;rw[hx]at h3;injection h3 with h3;subst h3;rw[h.VE h2]at he;exact he h4
 rcases Nat.lt_trichotomy k k' with e|e|e
 ·exact(key h hx he h' e).elim
 ·subst e;rw[hx]at O0;injection O0 with O0;exact⟨rfl,h.VE h',O0⟩
 ·exact(key h' O0 he' h e).elim
def fk.Gs{v:cT}{l:List eg}{k:Nat}{s s':RS}{x:eg}(h:fk v l k s)(hx:l[k]? =some x)(he:th v s x≠0)(h':fk v l l.length s'):False:=by have gY:=(dV.1 hx).1;obtain⟨s1,h1⟩:=h'.pre (k+1) gY;obtain⟨s0,y,h2,h3,h4,-⟩:=h1.prev;rw[hx]at h3;injection h3 with h3;subst h3;rw[h.VE h2]at he;exact he h4
def uu.VE{v:cT}{l:List eg}{a e a' e':Int}(h:uu v l a e)(h':uu v l a' e'):a=a'/\e=e':=by
 cases h with
 |VV h1=>
  cases h' with
  |VV _=>exact⟨rfl,rfl⟩
  |len k1 _=>exact absurd k1 h1
  |bad k1 _ _ _ _=>exact absurd k1 h1
  |ok k1 _ _=>exact absurd k1 h1
 |len h1 h2=>
  cases h' with
  |VV k1=>exact absurd h1 k1
  |len _ _=>exact⟨rfl,rfl⟩
  |bad _ k2 _ _ _=>omega
  |ok _ k2 _=>omega
 |bad h1 h2 h3 h4 h5=>
  cases h' with
  |VV k1=>exact absurd h1 k1
  |len _ k2=>omega
  |bad _ _ k3 k4 k5=>obtain⟨rfl,rfl,rfl⟩:=h3.UE h4 h5 k3 k4 k5;exact⟨rfl,rfl⟩
  |ok _ _ k3=>exact(h3.Gs h4 h5 k3).elim
 |ok h1 h2 h3=>
  cases h' with
  |VV k1=>exact absurd h1 k1
  |len _ k2=>omega
  |bad _ _ k3 k4 k5=>exact(k3.Gs k4 k5 h3).elim
  |ok _ _ _=>exact⟨rfl,rfl⟩
def uu.ago{v:cT}{l:List eg}{a:Int}(h:uu v l a 0):a=0/\(eR v).2=0/\l.length<=2000/\∃s,fk v l l.length s:=by
 generalize he:(0:Int)=e at h;cases h with
 |VV h1=>exact absurd he.symm h1
 |len _ _=>exact absurd he (by decide)
 |bad _ _ _ _ h5=>exact absurd he.symm h5
 |ok h1 h2 h3=>exact⟨rfl,h1,h2,_,h3⟩
def gI(call:Eng.Callee)(R:Nat->ae)(W:AW):Option LT:=aj (aG Tryz.prog .len #[33] 3 #[false] [(R 7)] W) λeC=>aj (aw Tryz.prog .lss 3 false false (R 11) eC.1 eC.2) λew=>bf ew.1 (aj (iY 26 (R 7) (R 11) ew.2) λgT=>aj (bA 26 gT.1 gT.2) λgQ=>aj (iY 26 (R 9) (R 11) gQ.2) λgt=>aj (bA 26 gt.1 gt.2) λii=>aj (aw Tryz.prog .neq 45 false false gQ.1 ii.1 ii.2) λgX=>bf gX.1 (some (X.ret,(bw R [(55,(R 11)),(56,(R 7)),(57,eC.1),(58,ew.1),(61,(R 7)),(62,(R 11)),(63,gT.1),(64,gQ.1),(65,(R 9)),(66,(R 11)),(67,gt.1),(68,ii.1),(69,gX.1),(2,(.bool false))]),gX.2)) (aj (aw Tryz.prog .add 3 false true (R 11) (.af 1) gX.2) λiq=>some (X.normal,(bw R [(55,(R 11)),(56,(R 7)),(57,eC.1),(58,ew.1),(61,(R 7)),(62,(R 11)),(63,gT.1),(64,gQ.1),(65,(R 9)),(66,(R 11)),(67,gt.1),(68,ii.1),(69,gX.1),(59,(R 11)),(60,iq.1),(11,iq.1)]),iq.2))) (some (X.exit 0,(bw R [(55,(R 11)),(56,(R 7)),(57,eC.1),(58,ew.1)]),ew.2))
def mZ(call:Eng.Callee)(x0:ae)(W:AW):Option (ae×AW):=aj (cC x0 W) λr1=>aj (bA 5 r1.1 r1.2) λr2=>aj (call (cN 6) [r2.1] r2.2) λr3=>bf r3.1 (aj (call (cN 7) [] r3.2) λr4=>aD Tryz.prog [(r4.1,none)] r4.2) (aj (bA 5 r1.1 r3.2) λr5=>aj (call (cN 8) [r5.1] r5.2) λr6=>aj (au r6.1 0 r6.2) λr7=>aj (au r6.1 1 r7.2) λr8=>aj (bA 5 r1.1 r8.2) λr9=>aj (call (cN 9) [r9.1] r9.2) λbK=>aj (au bK.1 0 bK.2) λbN=>aj (au bK.1 1 bN.2) λcj=>aj (bA 5 r1.1 cj.2) λcA=>aj (call (cN 10) [cA.1] cA.2) λcy=>aj (au cy.1 0 cy.2) λbX=>aj (au cy.1 1 bX.2) λcg=>aj (bA 5 r1.1 cg.2) λcu=>aj (call (cN 11) [cu.1] cu.2) λcE=>aj (au cE.1 0 cE.2) λbY=>aj (au cE.1 1 bY.2) λcn=>aj (aw Tryz.prog .neq 3 false false r7.1 bN.1 cn.2) λcH=>aj (aU (aZ cH.1 false) (j0 r8.1 cH.2) (some (ag,cH.2))) λcK=>aj (aU (aZ cH.1 false) (j0 cj.1 cK.2) (some (ag,cK.2))) λcP=>aj (aU (aZ cH.1 false) (aw Tryz.prog .neq 30 false false cK.1 cP.1 cP.2) (some (ag,cP.2))) λcZ=>aj (bt cH.1 (.bool true) cZ.1 cZ.2) λcW=>aj (aU (aZ cW.1 false) (j0 cg.1 cW.2) (some (ag,cW.2))) λdA=>aj (aU (aZ cW.1 false) (j0 cn.1 dA.2) (some (ag,dA.2))) λdx=>aj (aU (aZ cW.1 false) (aw Tryz.prog .neq 30 false false dA.1 dx.1 dx.2) (some (ag,dx.2))) λdI=>aj (bt cW.1 (.bool true) dI.1 dI.2) λdr=>aj (aU (aZ dr.1 false) (j0 bX.1 dr.2) (some (ag,dr.2))) λeE=>aj (aU (aZ dr.1 false) (aG Tryz.prog .len #[33] 3 #[false] [eE.1] eE.2) (some (ag,eE.2))) λeh=>aj (aU (aZ dr.1 false) (j0 bY.1 eh.2) (some (ag,eh.2))) λej=>aj (aU (aZ dr.1 false) (aG Tryz.prog .len #[33] 3 #[false] [ej.1] ej.2) (some (ag,ej.2))) λdJ=>aj (aU (aZ dr.1 false) (aw Tryz.prog .neq 3 false false eh.1 dJ.1 dJ.2) (some (ag,dJ.2))) λdR=>aj (bt dr.1 (.bool true) dR.1 dR.2) λeN=>bf eN.1 (aD Tryz.prog [((.bool false),none)] eN.2) (aj (du (gI call) (bw (dQ 0 [x0] ak.blank) [(1,r1.1),(2,(.bool false)),(12,r2.1),(13,r3.1),(16,r5.1),(17,r6.1),(15,r6.1),(18,r7.1),(19,r8.1),(3,r7.1),(4,r8.1),(21,r9.1),(22,bK.1),(20,bK.1),(23,bN.1),(24,cj.1),(5,bN.1),(6,cj.1),(26,cA.1),(27,cy.1),(25,cy.1),(28,bX.1),(29,cg.1),(7,bX.1),(8,cg.1),(31,cu.1),(32,cE.1),(30,cE.1),(33,bY.1),(34,cn.1),(9,bY.1),(10,cn.1),(35,r7.1),(36,bN.1),(37,cH.1),(38,cH.1),(39,cK.1),(40,cP.1),(41,cZ.1),(42,cW.1),(43,cW.1),(44,dA.1),(45,dx.1),(46,dI.1),(47,dr.1),(48,dr.1),(49,eE.1),(50,eh.1),(51,ej.1),(52,dJ.1),(53,dR.1),(54,eN.1),(11,(.af 0))]) eN.2) λik=>dE 0 ik.1 (aj (call (cN 7) [] ik.2.2) λgR=>aD Tryz.prog [(gR.1,none)] gR.2) (iK ik.1 (aD Tryz.prog [((ik.2.1 2),none)] ik.2.2))))
def qL{x0:ae}{W:AW}{r:ae×AW}(h:mZ bl x0 W=some r):bl (.func (.func 3) #[] #[]) [x0] W=some (gc W r):=bO (nt:=71) (n:=1) (by kernel_rfl) (by kernel_rfl) rfl (aH (by kernel_rfl) h)
def lC(call:Eng.Callee)(R:Nat->ae)(W:AW):Option LT:=aj (aR 0 (R 1) W) λdA=>aj (aR 3 dA.1 dA.2) λdx=>aj (aJ dx.1 dx.2) λdI=>aj (iY 3 dI.1 (R 4) dI.2) λdr=>aj (aR 1 dr.1 dr.2) λeE=>aj (aJ eE.1 eE.2) λeh=>aj (aG Tryz.prog .len #[64] 3 #[false] [eh.1] eh.2) λej=>aj (aw Tryz.prog .lss 3 false false (R 5) ej.1 ej.2) λdJ=>bf dJ.1 (aj (aR 0 (R 1) dJ.2) λdR=>aj (aR 3 dR.1 dR.2) λeN=>aj (aJ eN.1 eN.2) λeC=>aj (iY 3 eC.1 (R 4) eC.2) λew=>aj (aR 1 ew.1 ew.2) λgT=>aj (aJ gT.1 gT.2) λgQ=>aj (iY 1 gQ.1 (R 5) gQ.2) λgt=>aj (aJ gt.1 gt.2) λii=>aj (aG Tryz.prog .min #[3,3] 3 #[false,true] [ii.1,(.af 100)] ii.2) λgX=>aj (aG Tryz.prog .max #[3,3] 3 #[true,false] [(.af 0),gX.1] gX.2) λiq=>aj (aw Tryz.prog .add 3 false false (R 3) iq.1 iq.2) λik=>aj (aw Tryz.prog .add 3 false true (R 5) (.af 1) ik.2) λgR=>some (X.normal,(bw R [(35,(R 5)),(36,dA.1),(37,dx.1),(38,dI.1),(39,(R 4)),(40,dr.1),(41,eE.1),(42,eh.1),(43,ej.1),(44,dJ.1),(47,(R 3)),(48,dR.1),(49,eN.1),(50,eC.1),(51,(R 4)),(52,ew.1),(53,gT.1),(54,gQ.1),(55,(R 5)),(56,gt.1),(57,ii.1),(58,gX.1),(59,iq.1),(60,ik.1),(3,ik.1),(45,(R 5)),(46,gR.1),(5,gR.1)]),gR.2)) (some (X.exit 2,(bw R [(35,(R 5)),(36,dA.1),(37,dx.1),(38,dI.1),(39,(R 4)),(40,dr.1),(41,eE.1),(42,eh.1),(43,ej.1),(44,dJ.1)]),dJ.2))
def lV(call:Eng.Callee)(R:Nat->ae)(W:AW):Option LT:=aj (aR 0 (R 1) W) λcH=>aj (aR 3 cH.1 cH.2) λcK=>aj (aJ cK.1 cK.2) λcP=>aj (aG Tryz.prog .len #[22] 3 #[false] [cP.1] cP.2) λcZ=>aj (aw Tryz.prog .lss 3 false false (R 4) cZ.1 cZ.2) λcW=>bf cW.1 (aj (du (lC call) (bw R [(27,(R 4)),(28,cH.1),(29,cK.1),(30,cP.1),(31,cZ.1),(32,cW.1),(5,(.af 0))]) cW.2) λkN=>dE 2 kN.1 (aj (aw Tryz.prog .add 3 false true (kN.2.1 4) (.af 1) kN.2.2) λnB=>some (X.normal,(bw kN.2.1 [(33,(kN.2.1 4)),(34,nB.1),(4,nB.1)]),nB.2)) (none)) (some (X.exit 0,(bw R [(27,(R 4)),(28,cH.1),(29,cK.1),(30,cP.1),(31,cZ.1),(32,cW.1)]),cW.2))
def xA(call:Eng.Callee)(x0:ae)(W:AW):Option (ae×AW):=aj (cC x0 W) λr1=>aj (aR 0 r1.1 r1.2) λr2=>aj (bA 4 r2.1 r2.2) λr3=>aj (call (cN 20) [r3.1] r3.2) λr4=>aj (aU (aZ r4.1 false) (aR 4 r1.1 r4.2) (some (ag,r4.2))) λr5=>aj (aU (aZ r4.1 false) (aJ r5.1 r5.2) (some (ag,r5.2))) λr6=>aj (aU (aZ r4.1 false) (aG Tryz.prog .len #[25] 3 #[false] [r6.1] r6.2) (some (ag,r6.2))) λr7=>aj (aU (aZ r4.1 false) (aw Tryz.prog .gtr 3 false true r7.1 (.af 200) r7.2) (some (ag,r7.2))) λr8=>aj (aU (aZ r4.1 false) (j0 r8.1 r8.2) (some (ag,r8.2))) λr9=>aj (aU (aZ r9.1 true) (aR 4 r1.1 r9.2) (some (ag,r9.2))) λbK=>aj (aU (aZ r9.1 true) (aJ bK.1 bK.2) (some (ag,bK.2))) λbN=>aj (aU (aZ r9.1 true) (aG Tryz.prog .len #[25] 3 #[false] [bN.1] bN.2) (some (ag,bN.2))) λcj=>aj (aU (aZ r9.1 true) (aw Tryz.prog .leq 3 false true cj.1 (.af 2000) cj.2) (some (ag,cj.2))) λcA=>aj (aU (aZ r4.1 false) (bt r9.1 cA.1 (.bool false) cA.2) (some (ag,cA.2))) λcy=>aj (bt r4.1 (.bool true) cy.1 cy.2) λbX=>aj (aU (aZ bX.1 false) (aR 4 r1.1 bX.2) (some (ag,bX.2))) λcg=>aj (aU (aZ bX.1 false) (aJ cg.1 cg.2) (some (ag,cg.2))) λcu=>aj (aU (aZ bX.1 false) (aG Tryz.prog .len #[25] 3 #[false] [cu.1] cu.2) (some (ag,cu.2))) λcE=>aj (aU (aZ bX.1 false) (aw Tryz.prog .gtr 3 false true cE.1 (.af 2010) cE.2) (some (ag,cE.2))) λbY=>aj (bt bX.1 (.bool true) bY.1 bY.2) λcn=>bf cn.1 (aD Tryz.prog [((.bool true),none)] cn.2) (aj (du (lV call) (bw (dQ 0 [x0] ak.blank) [(1,r1.1),(2,(.bool false)),(6,r2.1),(7,r3.1),(8,r4.1),(9,r4.1),(10,r5.1),(11,r6.1),(12,r7.1),(13,r8.1),(14,r9.1),(15,bK.1),(16,bN.1),(17,cj.1),(18,cA.1),(19,cy.1),(20,bX.1),(21,bX.1),(22,cg.1),(23,cu.1),(24,cE.1),(25,bY.1),(26,cn.1),(3,(.af 0)),(4,(.af 0))]) cn.2) λod=>dE 0 od.1 (aj (aw Tryz.prog .gtr 3 false true (od.2.1 3) (.af 60) od.2.2) λpv=>aD Tryz.prog [(pv.1,none)] pv.2) (none))
def En{x0:ae}{W:AW}{r:ae×AW}(h:xA bl x0 W=some r):bl (.func (.func 6) #[] #[]) [x0] W=some (gc W r):=bO (nt:=63) (n:=1) (by kernel_rfl) (by kernel_rfl) rfl (aH (by kernel_rfl) h)
def vP(call:Eng.Callee)(x0:ae)(W:AW):Option (ae×AW):=aj (cC x0 W) λr1=>aj (bA 5 r1.1 r1.2) λr2=>aj (call (cN 24) [r2.1] r2.2) λr3=>aj (au r3.1 0 r3.2) λr4=>aj (au r3.1 1 r4.2) λr5=>aj (au r3.1 2 r5.2) λr6=>aD Tryz.prog [(r5.1,none),(r6.1,none)] r6.2
def zr{x0:ae}{W:AW}{r:ae×AW}(h:vP bl x0 W=some r):bl (.func (.func 8) #[] #[]) [x0] W=some (gc W r):=bO (nt:=12) (n:=1) (by kernel_rfl) (by kernel_rfl) rfl (aH (by kernel_rfl) h)
def yi(call:Eng.Callee)(x0:ae)(W:AW):Option (ae×AW):=aj (cC x0 W) λr1=>aj (bA 5 r1.1 r1.2) λr2=>aj (call (cN 25) [r2.1] r2.2) λr3=>aj (au r3.1 0 r3.2) λr4=>aj (au r3.1 1 r4.2) λr5=>aj (au r3.1 2 r5.2) λr6=>aj (bc Tryz.prog 88 r6.2) λr7=>aj (bU 204 r7.1 r4.1 r7.2) λr8=>aD Tryz.prog [(r5.1,none),(r6.1,none)] r8.2
def Aq{x0:ae}{W:AW}{r:ae×AW}(h:yi bl x0 W=some r):bl (.func (.func 9) #[] #[]) [x0] W=some (gc W r):=bO (nt:=15) (n:=1) (by kernel_rfl) (by kernel_rfl) rfl (aH (by kernel_rfl) h)
def pE(call:Eng.Callee)(x0:ae)(W:AW):Option (ae×AW):=aj (cC x0 W) λr1=>aj (bA 5 r1.1 r1.2) λr2=>aj (call (cN 24) [r2.1] r2.2) λr3=>aj (au r3.1 0 r3.2) λr4=>aj (au r3.1 1 r4.2) λr5=>aj (au r3.1 2 r5.2) λr6=>aj (aw Tryz.prog .neq 30 false true r6.1 (.af 0) r6.2) λr7=>bf r7.1 (aD Tryz.prog [((.slice none 0 0),none),(r6.1,none)] r7.2) (aj (aW r4.1 r7.2) λr8=>aj (aR 5 r8.1 r8.2) λr9=>aj (aJ r9.1 r9.2) λbK=>aD Tryz.prog [(bK.1,none),((.af 0),none)] bK.2)
def zh{x0:ae}{W:AW}{r:ae×AW}(h:pE bl x0 W=some r):bl (.func (.func 10) #[] #[]) [x0] W=some (gc W r):=bO (nt:=20) (n:=1) (by kernel_rfl) (by kernel_rfl) rfl (aH (by kernel_rfl) h)
def sq(call:Eng.Callee)(x0:ae)(W:AW):Option (ae×AW):=aj (cC x0 W) λr1=>aj (bA 5 r1.1 r1.2) λr2=>aj (call (cN 25) [r2.1] r2.2) λr3=>aj (au r3.1 0 r3.2) λr4=>aj (au r3.1 1 r4.2) λr5=>aj (au r3.1 2 r5.2) λr6=>aj (bc Tryz.prog 88 r6.2) λr7=>aj (bU 204 r7.1 r4.1 r7.2) λr8=>aj (aw Tryz.prog .neq 30 false true r6.1 (.af 0) r8.2) λr9=>bf r9.1 (aD Tryz.prog [((.slice none 0 0),none),(r6.1,none)] r9.2) (aj (aR 5 r7.1 r9.2) λbK=>aj (aJ bK.1 bK.2) λbN=>aD Tryz.prog [(bN.1,none),((.af 0),none)] bN.2)
def Bp{x0:ae}{W:AW}{r:ae×AW}(h:sq bl x0 W=some r):bl (.func (.func 11) #[] #[]) [x0] W=some (gc W r):=bO (nt:=18) (n:=1) (by kernel_rfl) (by kernel_rfl) rfl (aH (by kernel_rfl) h)
def ly(call:Eng.Callee)(R:Nat->ae)(W:AW):Option LT:=aj (aR 1 (R 5) W) λcW=>aj (aJ cW.1 cW.2) λdA=>aj (aG Tryz.prog .len #[64] 3 #[false] [dA.1] dA.2) λdx=>aj (aw Tryz.prog .lss 3 false false (R 6) dx.1 dx.2) λdI=>bf dI.1 (aj (aR 1 (R 5) dI.2) λdr=>aj (aJ dr.1 dr.2) λeE=>aj (iY 1 eE.1 (R 6) eE.2) λeh=>aj (aJ eh.1 eh.2) λej=>aj (aw Tryz.prog .gtr 3 false true ej.1 (.af 0) ej.2) λdJ=>aj (aU (aZ dJ.1 true) (aR 1 (R 5) dJ.2) (some (ag,dJ.2))) λdR=>aj (aU (aZ dJ.1 true) (aJ dR.1 dR.2) (some (ag,dR.2))) λeN=>aj (aU (aZ dJ.1 true) (j0 (R 6) eN.2) (some (ag,eN.2))) λeC=>aj (aU (aZ dJ.1 true) (iY 1 eN.1 eC.1 eC.2) (some (ag,eC.2))) λew=>aj (aU (aZ dJ.1 true) (aJ ew.1 ew.2) (some (ag,ew.2))) λgT=>aj (aU (aZ dJ.1 true) (aw Tryz.prog .leq 3 false true gT.1 (.af 100) gT.2) (some (ag,gT.2))) λgQ=>aj (bt dJ.1 gQ.1 (.bool false) gQ.2) λgt=>bf gt.1 (aj (aR 1 (R 5) gt.2) λii=>aj (aJ ii.1 ii.2) λgX=>aj (iY 1 gX.1 (R 6) gX.2) λiq=>aj (aJ iq.1 iq.2) λik=>aj (aw Tryz.prog .add 3 false false (R 3) ik.1 ik.2) λgR=>aj (aw Tryz.prog .add 3 false true (R 6) (.af 1) gR.2) λkN=>some (X.normal,(bw R [(33,(R 6)),(34,cW.1),(35,dA.1),(36,dx.1),(37,dI.1),(40,dr.1),(41,eE.1),(42,(R 6)),(43,eh.1),(44,ej.1),(45,dJ.1),(46,dJ.1),(47,dR.1),(48,eN.1),(49,eC.1),(50,ew.1),(51,gT.1),(52,gQ.1),(53,gt.1),(54,(R 3)),(55,ii.1),(56,gX.1),(57,(R 6)),(58,iq.1),(59,ik.1),(60,gR.1),(3,gR.1),(38,(R 6)),(39,kN.1),(6,kN.1)]),kN.2)) (aj (aw Tryz.prog .add 3 false true (R 6) (.af 1) gt.2) λnB=>some (X.normal,(bw R [(33,(R 6)),(34,cW.1),(35,dA.1),(36,dx.1),(37,dI.1),(40,dr.1),(41,eE.1),(42,(R 6)),(43,eh.1),(44,ej.1),(45,dJ.1),(46,dJ.1),(47,dR.1),(48,eN.1),(49,eC.1),(50,ew.1),(51,gT.1),(52,gQ.1),(53,gt.1),(38,(R 6)),(39,nB.1),(6,nB.1)]),nB.2))) (some (X.exit 2,(bw R [(33,(R 6)),(34,cW.1),(35,dA.1),(36,dx.1),(37,dI.1)]),dI.2))
def pT(call:Eng.Callee)(R:Nat->ae)(W:AW):Option LT:=aj (aR 3 (R 1) W) λr6=>aj (aJ r6.1 r6.2) λr7=>aj (aG Tryz.prog .len #[22] 3 #[false] [r7.1] r7.2) λr8=>aj (aw Tryz.prog .lss 3 false false (R 4) r8.1 r8.2) λr9=>bf r9.1 (aj (aR 3 (R 1) r9.2) λbK=>aj (aJ bK.1 bK.2) λbN=>aj (iY 3 bN.1 (R 4) bN.2) λcj=>aj (bA 3 cj.1 cj.2) λcA=>aj (bc Tryz.prog 66 cA.2) λcy=>aj (bU 3 cy.1 cA.1 cy.2) λbX=>aj (aR 1 cy.1 bX.2) λcg=>aj (aJ cg.1 cg.2) λcu=>aj (aG Tryz.prog .len #[64] 3 #[false] [cu.1] cu.2) λcE=>aj (aw Tryz.prog .gtr 3 false true cE.1 (.af 20) cE.2) λbY=>aj (aU (aZ bY.1 false) (aR 0 cy.1 bY.2) (some (ag,bY.2))) λcn=>aj (aU (aZ bY.1 false) (aJ cn.1 cn.2) (some (ag,cn.2))) λcH=>aj (aU (aZ bY.1 false) (aG Tryz.prog .len #[9] 3 #[false] [cH.1] cH.2) (some (ag,cH.2))) λcK=>aj (aU (aZ bY.1 false) (aw Tryz.prog .gtr 3 false true cK.1 (.af 100) cK.2) (some (ag,cK.2))) λcP=>aj (bt bY.1 (.bool true) cP.1 cP.2) λcZ=>bf cZ.1 (some (X.ret,(bw R [(11,(R 4)),(12,r6.1),(13,r7.1),(14,r8.1),(15,r9.1),(18,bK.1),(19,bN.1),(20,(R 4)),(21,cj.1),(22,cA.1),(5,cy.1),(23,cg.1),(24,cu.1),(25,cE.1),(26,bY.1),(27,bY.1),(28,cn.1),(29,cH.1),(30,cK.1),(31,cP.1),(32,cZ.1),(2,(.bool true))]),cZ.2)) (aj (du (ly call) (bw R [(11,(R 4)),(12,r6.1),(13,r7.1),(14,r8.1),(15,r9.1),(18,bK.1),(19,bN.1),(20,(R 4)),(21,cj.1),(22,cA.1),(5,cy.1),(23,cg.1),(24,cu.1),(25,cE.1),(26,bY.1),(27,bY.1),(28,cn.1),(29,cH.1),(30,cK.1),(31,cP.1),(32,cZ.1),(6,(.af 0))]) cZ.2) λod=>dE 2 od.1 (aj (aw Tryz.prog .add 3 false true (od.2.1 4) (.af 1) od.2.2) λpv=>some (X.normal,(bw od.2.1 [(16,(od.2.1 4)),(17,pv.1),(4,pv.1)]),pv.2)) (none))) (some (X.exit 0,(bw R [(11,(R 4)),(12,r6.1),(13,r7.1),(14,r8.1),(15,r9.1)]),r9.2))
def xr(call:Eng.Callee)(x0:ae)(W:AW):Option (ae×AW):=aj (cC x0 W) λr1=>aj (aR 3 r1.1 r1.2) λr2=>aj (aJ r2.1 r2.2) λr3=>aj (aG Tryz.prog .len #[22] 3 #[false] [r3.1] r3.2) λr4=>aj (aw Tryz.prog .gtr 3 false true r4.1 (.af 10) r4.2) λr5=>bf r5.1 (aD Tryz.prog [((.bool true),none)] r5.2) (aj (du (pT call) (bw (dQ 0 [x0] ak.blank) [(1,r1.1),(2,(.bool false)),(7,r2.1),(8,r3.1),(9,r4.1),(10,r5.1),(3,(.af 0)),(4,(.af 0))]) r5.2) λpw=>dE 0 pw.1 (aj (aw Tryz.prog .gtr 3 false true (pw.2.1 3) (.af 200) pw.2.2) λpU=>aD Tryz.prog [(pU.1,none)] pU.2) (iK pw.1 (aD Tryz.prog [((pw.2.1 2),none)] pw.2.2)))
def E7{x0:ae}{W:AW}{r:ae×AW}(h:xr bl x0 W=some r):bl (.func (.func 20) #[] #[]) [x0] W=some (gc W r):=bO (nt:=63) (n:=1) (by kernel_rfl) (by kernel_rfl) rfl (aH (by kernel_rfl) h)
def gP(call:Eng.Callee)(JR:Nat->ae)(J9 J11 J37:ae)(W:AW):Option LT:=aj (aw Tryz.prog .neq 30 false true J11 (.af 0) W) λeN=>bf eN.1 (some (X.ret,(bw JR [(58,J11),(59,eN.1),(60,J9),(61,J11),(2,(.pointer none)),(3,J9),(4,J11)]),eN.2)) (aj (aw Tryz.prog .add 3 false true J37 (.af 1) eN.2) λeC=>some (X.normal,(bw JR [(58,J11),(59,eN.1),(62,eC.1),(37,eC.1)]),eC.2))
def jG(call:Eng.Callee)(R:Nat->ae)(W:AW):Option LT:=aj (aw Tryz.prog .lss 3 false false (R 37) (R 36) W) λcW=>bf cW.1 (aj (iY 31 (R 35) (R 37) cW.2) λdA=>aj (bA 31 dA.1 dA.2) λdx=>aj (bc Tryz.prog 98 dx.2) λdI=>aj (bU 31 dI.1 dx.1 dI.2) λdr=>aj (aW (R 7) dr.2) λeE=>aj (aR 10 eE.1 eE.2) λeh=>aj (bU 1 eh.1 (R 37) eh.2) λej=>aj (bA 31 dI.1 ej.2) λdJ=>aj (call (cN 35) [(R 7),dJ.1] dJ.2) λdR=>aj (aw Tryz.prog .eql 30 false true dR.1 (.af 0) dR.2) λew=>bf ew.1 (aj (aR 0 dI.1 ew.2) λgT=>aj (aJ gT.1 gT.2) λgQ=>aj (EI 7 1 (R 8) gQ.1 gQ.2) λgt=>aj (aJ gt.1 gt.2) λii=>aj (bA 31 dI.1 ii.2) λgX=>aj (call ii.1 [(R 7),gX.1] gX.2) λiq=>gP call (bw R [(38,cW.1),(39,(R 37)),(40,dA.1),(41,dx.1),(10,dI.1),(9,(R 37)),(42,(R 7)),(43,(R 37)),(44,eE.1),(45,eh.1),(46,(R 7)),(47,dJ.1),(48,dR.1),(11,dR.1),(49,dR.1),(50,ew.1),(51,gT.1),(52,gQ.1),(53,gt.1),(54,ii.1),(55,(R 7)),(56,gX.1),(57,iq.1),(11,iq.1)]) (R 37) iq.1 (R 37) iq.2) (gP call (bw R [(38,cW.1),(39,(R 37)),(40,dA.1),(41,dx.1),(10,dI.1),(9,(R 37)),(42,(R 7)),(43,(R 37)),(44,eE.1),(45,eh.1),(46,(R 7)),(47,dJ.1),(48,dR.1),(11,dR.1),(49,dR.1),(50,ew.1)]) (R 37) dR.1 (R 37) ew.2)) (some (X.exit 0,(eH R (some 38) cW.1),cW.2))
def qW(call:Eng.Callee)(x0:ae)(W:AW):Option (ae×AW):=aj (cC x0 W) λr1=>aj (aR 0 r1.1 r1.2) λr2=>aj (bA 4 r2.1 r2.2) λr3=>aj (call (cN 33) [r3.1] r3.2) λr4=>aj (au r4.1 0 r4.2) λr5=>aj (au r4.1 1 r5.2) λr6=>aj (aw Tryz.prog .neq 30 false true r6.1 (.af 0) r6.2) λr7=>bf r7.1 (aD Tryz.prog [((.pointer none),none),((.af (-1)),none),(r6.1,none)] r7.2) (aj (aR 4 r1.1 r7.2) λr8=>aj (aJ r8.1 r8.2) λr9=>aj (aG Tryz.prog .len #[25] 3 #[false] [r9.1] r9.2) λbK=>aj (aw Tryz.prog .gtr 3 false true bK.1 (.af 2000) bK.2) λbN=>bf bN.1 (aD Tryz.prog [((.pointer none),none),((.af (-1)),none),((.af 3),none)] bN.2) (aj (bA 5 r1.1 bN.2) λcj=>aj (mP Tryz.prog 91 none cj.2) λcA=>aj (mP Tryz.prog 92 none cA.2) λcy=>aj (bH Tryz.prog 94 [(0,cj.1),(2,cA.1),(3,cy.1),(5,(.af (-1)))] cy.2) λbX=>aj (cC bX.1 bX.2) λcg=>aj (call (cN 34) [] cg.2) λcu=>aj (bc Tryz.prog 110 cu.2) λcE=>aj (bU 7 cE.1 cu.1 cE.2) λbY=>aj (aW cg.1 bY.2) λcn=>aj (aR 0 cn.1 cn.2) λcH=>aj (aR 4 cH.1 cH.2) λcK=>aj (aJ cK.1 cK.2) λcP=>aj (aG Tryz.prog .len #[25] 3 #[false] [cP.1] cP.2) λcZ=>aj (du (jG call) (bw (dQ 0 [x0] ak.blank) [(1,r1.1),(2,(.pointer none)),(3,(.af 0)),(4,(.af 0)),(13,r2.1),(14,r3.1),(15,r4.1),(12,r4.1),(16,r5.1),(17,r6.1),(5,r5.1),(6,r6.1),(18,r6.1),(19,r7.1),(21,r8.1),(22,r9.1),(23,bK.1),(24,bN.1),(25,cj.1),(26,cA.1),(27,cy.1),(28,bX.1),(29,cg.1),(7,cg.1),(30,cu.1),(8,cE.1),(31,cg.1),(32,cn.1),(33,cH.1),(34,cK.1),(35,cP.1),(36,cZ.1),(37,(.af 0))]) cZ.2) λik=>dE 0 ik.1 (aD Tryz.prog [((ik.2.1 7),none),((.af 0),none),((.af 0),none)] ik.2.2) (iK ik.1 (aD Tryz.prog [((ik.2.1 2),none),((ik.2.1 3),none),((ik.2.1 4),none)] ik.2.2))))
def AZ{x0:ae}{W:AW}{r:ae×AW}(h:qW bl x0 W=some r):bl (.func (.func 24) #[] #[]) [x0] W=some (gc W r):=bO (nt:=64) (n:=1) (by kernel_rfl) (by kernel_rfl) rfl (aH (by kernel_rfl) h)
def kJ(call:Eng.Callee)(R:Nat->ae)(W:AW):Option LT:=aj (aR 4 (R 1) W) λcH=>aj (aJ cH.1 cH.2) λcK=>aj (aG Tryz.prog .len #[25] 3 #[false] [cK.1] cK.2) λcP=>aj (aw Tryz.prog .lss 3 false false (R 8) cP.1 cP.2) λcZ=>bf cZ.1 (aj (bA 204 (R 7) cZ.2) λcW=>aj (call (cN 38) [cW.1,(R 8)] cW.2) λdA=>aj (au dA.1 0 dA.2) λdx=>aj (au dA.1 1 dx.2) λdI=>aj (bc Tryz.prog 88 dI.2) λdr=>aj (bU 204 dr.1 dx.1 dr.2) λeE=>aj (aw Tryz.prog .neq 30 false true dI.1 (.af 0) eE.2) λeh=>bf eh.1 (aj (bH Tryz.prog 88 [] eh.2) λej=>aj (bU 204 (R 2) ej.1 ej.2) λdJ=>some (X.ret,(bw R [(28,(R 8)),(29,cH.1),(30,cK.1),(31,cP.1),(32,cZ.1),(36,cW.1),(37,(R 8)),(38,dA.1),(35,dA.1),(39,dx.1),(40,dI.1),(9,dr.1),(10,dI.1),(41,dI.1),(42,eh.1),(43,ej.1),(44,(R 8)),(45,dI.1),(3,(R 8)),(4,dI.1)]),dJ.2)) (aj (bA 204 dr.1 eh.2) λdR=>aj (bU 204 (R 7) dR.1 dR.2) λeN=>aj (aw Tryz.prog .add 3 false true (R 8) (.af 1) eN.2) λeC=>some (X.normal,(bw R [(28,(R 8)),(29,cH.1),(30,cK.1),(31,cP.1),(32,cZ.1),(36,cW.1),(37,(R 8)),(38,dA.1),(35,dA.1),(39,dx.1),(40,dI.1),(9,dr.1),(10,dI.1),(41,dI.1),(42,eh.1),(46,dR.1),(33,(R 8)),(34,eC.1),(8,eC.1)]),eC.2))) (some (X.exit 0,(bw R [(28,(R 8)),(29,cH.1),(30,cK.1),(31,cP.1),(32,cZ.1)]),cZ.2))
def uj(call:Eng.Callee)(x0:ae)(W:AW):Option (ae×AW):=aj (cC x0 W) λr1=>aj (bc Tryz.prog 88 r1.2) λr2=>aj (aR 0 r1.1 r2.2) λr3=>aj (bA 4 r3.1 r3.2) λr4=>aj (call (cN 36) [r4.1] r4.2) λr5=>aj (au r5.1 0 r5.2) λr6=>aj (au r5.1 1 r6.2) λr7=>aj (aw Tryz.prog .neq 30 false true r7.1 (.af 0) r7.2) λr8=>bf r8.1 (aj (bH Tryz.prog 88 [] r8.2) λr9=>aj (bU 204 r2.1 r9.1 r9.2) λbK=>aD Tryz.prog [(r2.1,some 88),((.af (-1)),none),(r7.1,none)] bK.2) (aj (aR 4 r1.1 r8.2) λbN=>aj (aJ bN.1 bN.2) λcj=>aj (aG Tryz.prog .len #[25] 3 #[false] [cj.1] cj.2) λcA=>aj (aw Tryz.prog .gtr 3 false true cA.1 (.af 2000) cA.2) λcy=>bf cy.1 (aj (bH Tryz.prog 88 [] cy.2) λbX=>aj (bU 204 r2.1 bX.1 bX.2) λcg=>aD Tryz.prog [(r2.1,some 88),((.af (-1)),none),((.af 3),none)] cg.2) (aj (bA 5 r1.1 cy.2) λcu=>aj (call (cN 37) [cu.1] cu.2) λcE=>aj (bc Tryz.prog 88 cE.2) λbY=>aj (bU 204 bY.1 cE.1 bY.2) λcn=>aj (du (kJ call) (bw (dQ 0 [x0] ak.blank) [(1,r1.1),(2,r2.1),(3,(.af 0)),(4,(.af 0)),(12,r3.1),(13,r4.1),(14,r5.1),(11,r5.1),(15,r6.1),(16,r7.1),(5,r6.1),(6,r7.1),(17,r7.1),(18,r8.1),(21,bN.1),(22,cj.1),(23,cA.1),(24,cy.1),(26,cu.1),(27,cE.1),(7,bY.1),(8,(.af 0))]) cn.2) λew=>dE 0 ew.1 (aj (bA 204 (ew.2.1 7) ew.2.2) λgT=>aj (bU 204 (ew.2.1 2) gT.1 gT.2) λgQ=>aD Tryz.prog [((ew.2.1 2),some 88),((.af 0),none),((.af 0),none)] gQ.2) (iK ew.1 (aD Tryz.prog [((ew.2.1 2),some 88),((ew.2.1 3),none),((ew.2.1 4),none)] ew.2.2))))
def C6{x0:ae}{W:AW}{r:ae×AW}(h:uj bl x0 W=some r):bl (.func (.func 25) #[] #[]) [x0] W=some (gc W r):=bO (nt:=48) (n:=1) (by kernel_rfl) (by kernel_rfl) rfl (aH (by kernel_rfl) h)
def pG(call:Eng.Callee)(W:AW):Option (ae×AW):=aj (bc Tryz.prog 110 W) λr1=>aj (bH Tryz.prog 110 [(0,.nilFunc),(1,(cN 48)),(2,(cN 49)),(3,(cN 50)),(4,(cN 51)),(5,(cN 52)),(6,(cN 53))] r1.2) λr2=>aj (bU 7 r1.1 r2.1 r2.2) λr3=>aD Tryz.prog [(r1.1,some 110)] r3.2
def yY{W:AW}{r:ae×AW}(h:pG bl W=some r):bl (.func (.func 34) #[] #[]) [] W=some (gc W r):=bO (nt:=2) (n:=0) (by kernel_rfl) (by kernel_rfl) rfl (aH (by kernel_rfl) h)
def fw(call:Eng.Callee)(J0 J3:ae)(W:AW):Option (ae×AW):=aj (aW J0 W) λwN=>aj (aR 6 wN.1 wN.2) λuO=>aj (aJ uO.1 uO.2) λAB=>aj (aR 2 J3 AB.2) λzm=>aj (aJ zm.1 zm.2) λt8=>aj (gS Tryz.prog 91 AB.1 t8.1 false t8.2) λza=>aj (aR 0 J3 za.2) λuL=>aj (aJ uL.1 uL.2) λBw=>aj (aw Tryz.prog .neq 3 false true Bw.1 (.af 1) Bw.2) λuC=>aj (aU (aZ uC.1 true) (j0 za.1 uC.2) (some (ag,uC.2))) λyj=>aj (aU (aZ uC.1 true) (aw Tryz.prog .eql 123 false true yj.1 (.pointer none) yj.2) (some (ag,yj.2))) λw7=>aj (aU (aZ uC.1 true) (j0 w7.1 w7.2) (some (ag,w7.2))) λoe=>aj (aU (aZ oe.1 false) (j0 J0 oe.2) (some (ag,oe.2))) λuI=>aj (aU (aZ oe.1 false) (aW uI.1 uI.2) (some (ag,uI.2))) λBl=>aj (aU (aZ oe.1 false) (aR 5 Bl.1 Bl.2) (some (ag,Bl.2))) λwL=>aj (aU (aZ oe.1 false) (aJ wL.1 wL.2) (some (ag,wL.2))) λCv=>aj (aU (aZ oe.1 false) (j0 za.1 Cv.2) (some (ag,Cv.2))) λuW=>aj (aU (aZ oe.1 false) (aW uW.1 uW.2) (some (ag,uW.2))) λCt=>aj (aU (aZ oe.1 false) (aR 0 Ct.1 Ct.2) (some (ag,Ct.2))) λBE=>aj (aU (aZ oe.1 false) (aJ BE.1 BE.2) (some (ag,BE.2))) λC7=>aj (aU (aZ oe.1 false) (iY 26 Cv.1 C7.1 C7.2) (some (ag,C7.2))) λFA=>aj (aU (aZ oe.1 false) (aR 0 FA.1 FA.2) (some (ag,FA.2))) λFc=>aj (aU (aZ oe.1 false) (aJ Fc.1 Fc.2) (some (ag,Fc.2))) λDh=>aj (aU (aZ oe.1 false) (aR 3 J3 Dh.2) (some (ag,Dh.2))) λFx=>aj (aU (aZ oe.1 false) (aJ Fx.1 Fx.2) (some (ag,Fx.2))) λFU=>aj (aU (aZ oe.1 false) (aw Tryz.prog .neq 3 false false Dh.1 FU.1 FU.2) (some (ag,FU.2))) λCA=>aj (aU (aZ uC.1 true) (bt oe.1 (.bool true) CA.1 CA.2) (some (ag,CA.2))) λD0=>aj (bt uC.1 D0.1 (.bool false) D0.2) λKa=>bf Ka.1 (aD Tryz.prog [((.af 4),none)] Ka.2) (aD Tryz.prog [((.af 0),none)] Ka.2)
def cF(call:Eng.Callee)(J0 J3 J5 J6:ae)(W:AW):Option (ae×AW):=aj (bA 31 J3 W) λcn=>aj (bA 31 J5 cn.2) λcH=>aj (aw Tryz.prog .neq 98 false false cn.1 cH.1 cH.2) λcK=>bf cK.1 (aD Tryz.prog [((.af 2),none)] cK.2) (aj (aR 1 J3 cK.2) λcP=>aj (aJ cP.1 cP.2) λcZ=>aj (aw Tryz.prog .lss 3 false true cZ.1 (.af 0) cZ.2) λcW=>aj (aU (aZ cW.1 false) (aR 1 J3 cW.2) (some (ag,cW.2))) λdA=>aj (aU (aZ cW.1 false) (aJ dA.1 dA.2) (some (ag,dA.2))) λdx=>aj (aU (aZ cW.1 false) (aw Tryz.prog .gtr 3 false true dx.1 (.af 1000000000) dx.2) (some (ag,dx.2))) λdI=>aj (bt cW.1 (.bool true) dI.1 dI.2) λdr=>aj (aU (aZ dr.1 false) (aR 2 J3 dr.2) (some (ag,dr.2))) λeE=>aj (aU (aZ dr.1 false) (aJ eE.1 eE.2) (some (ag,eE.2))) λeh=>aj (aU (aZ dr.1 false) (aw Tryz.prog .lss 3 false true eh.1 (.af 1) eh.2) (some (ag,eh.2))) λej=>aj (bt dr.1 (.bool true) ej.1 ej.2) λdJ=>aj (aU (aZ dJ.1 false) (aR 2 J3 dJ.2) (some (ag,dJ.2))) λdR=>aj (aU (aZ dJ.1 false) (aJ dR.1 dR.2) (some (ag,dR.2))) λeN=>aj (aU (aZ dJ.1 false) (aw Tryz.prog .gtr 3 false true eN.1 (.af 64) eN.2) (some (ag,eN.2))) λeC=>aj (bt dJ.1 (.bool true) eC.1 eC.2) λew=>bf ew.1 (aD Tryz.prog [((.af 7),none)] ew.2) (aj (aR 1 J3 ew.2) λgT=>aj (aJ gT.1 gT.2) λgQ=>aj (aW J0 gQ.2) λgt=>aj (aR 8 gt.1 gt.2) λii=>aj (aJ ii.1 ii.2) λgX=>aj (aw Tryz.prog .lss 3 false false gQ.1 gX.1 gX.2) λiq=>aj (aU (aZ iq.1 false) (j0 J6 iq.2) (some (ag,iq.2))) λik=>aj (aU (aZ iq.1 false) (j0 ik.1 ik.2) (some (ag,ik.2))) λgR=>aj (aU (aZ gR.1 true) (aR 1 J3 gR.2) (some (ag,gR.2))) λkN=>aj (aU (aZ gR.1 true) (aJ kN.1 kN.2) (some (ag,kN.2))) λnB=>aj (aU (aZ gR.1 true) (j0 J0 nB.2) (some (ag,nB.2))) λod=>aj (aU (aZ gR.1 true) (aW od.1 od.2) (some (ag,od.2))) λpv=>aj (aU (aZ gR.1 true) (aR 9 pv.1 pv.2) (some (ag,pv.2))) λpw=>aj (aU (aZ gR.1 true) (aJ pw.1 pw.2) (some (ag,pw.2))) λpU=>aj (aU (aZ gR.1 true) (aw Tryz.prog .leq 3 false false nB.1 pU.1 pU.2) (some (ag,pU.2))) λqt=>aj (aU (aZ iq.1 false) (bt gR.1 qt.1 (.bool false) qt.2) (some (ag,qt.2))) λtP=>aj (bt iq.1 (.bool true) tP.1 tP.2) λqT=>bf qT.1 (aD Tryz.prog [((.af 18),none)] qT.2) (aj (aR 1 J3 qT.2) λyD=>aj (aJ yD.1 yD.2) λtR=>aj (aW J0 tR.2) λyh=>aj (aR 8 yh.1 yh.2) λxH=>aj (bU 1 xH.1 tR.1 xH.2) λt6=>bf J6 (aj (aR 1 J3 t6.2) λFz=>aj (aJ Fz.1 Fz.2) λNd=>aj (aW J0 Nd.2) λKL=>aj (aR 9 KL.1 KL.2) λOM=>aj (bU 1 OM.1 Nd.1 OM.2) λWi=>fw call J0 J3 Wi.2) (fw call J0 J3 t6.2))))
def eu(call:Eng.Callee)(J0 J3 J5 J6 J26 J37:ae)(W:AW):Option (ae×AW):=bf J37 (aj (aR 4 J3 W) λGj=>aj (aJ Gj.1 Gj.2) λoO=>aj (aR 4 J5 oO.2) λE1=>aj (bU 1 E1.1 oO.1 E1.2) λFD=>cF call J0 J3 J5 (.bool true) FD.2) (aj (aw Tryz.prog .eql 3 false true J26 (.af 6) W) λB7=>bf B7.1 (aj (aR 26 J3 B7.2) λFu=>aj (bA 5 Fu.1 Fu.2) λE6=>aj (aR 26 J5 E6.2) λzn=>aj (bU 5 zn.1 E6.1 zn.2) λGx=>cF call J0 J3 J5 J6 Gx.2) (cF call J0 J3 J5 J6 B7.2))
def jD(call:Eng.Callee)(x0 x1:ae)(W:AW):Option (ae×AW):=aj (cC x1 W) λr1=>aj (aR 0 r1.1 r1.2) λr2=>aj (aJ r2.1 r2.2) λr3=>aj (aw Tryz.prog .lss 3 false true r3.1 (.af 1) r3.2) λr4=>aj (aU (aZ r4.1 false) (aR 0 r1.1 r4.2) (some (ag,r4.2))) λr5=>aj (aU (aZ r4.1 false) (aJ r5.1 r5.2) (some (ag,r5.2))) λr6=>aj (aU (aZ r4.1 false) (aw Tryz.prog .gtr 3 false true r6.1 (.af 6) r6.2) (some (ag,r6.2))) λr7=>aj (bt r4.1 (.bool true) r7.1 r7.2) λr8=>bf r8.1 (aD Tryz.prog [((.af 2),none)] r8.2) (aj (aR 0 r1.1 r8.2) λr9=>aj (aJ r9.1 r9.2) λbK=>aj (aR 1 r1.1 bK.2) λbN=>aj (aJ bN.1 bN.2) λcj=>aj (aR 2 r1.1 cj.2) λcA=>aj (aJ cA.1 cA.2) λcy=>aj (aR 3 r1.1 cy.2) λbX=>aj (aJ bX.1 bX.2) λcg=>aj (bH Tryz.prog 98 [(0,bK.1),(1,cj.1),(2,cy.1),(3,cg.1)] cg.2) λcu=>aj (bc Tryz.prog 98 cu.2) λcE=>aj (bU 31 cE.1 cu.1 cE.2) λbY=>aj (aR 0 r1.1 bY.2) λKA=>aj (aJ KA.1 KA.2) λIn=>aj (aw Tryz.prog .eql 3 false true In.1 (.af 1) In.2) λMB=>bf MB.1 (aj (aR 5 r1.1 MB.2) λK4=>aj (bA 12 K4.1 K4.2) λTa=>aj (aR 5 cE.1 Ta.2) λNW=>aj (bU 12 NW.1 Ta.1 NW.2) λS6=>cF call x0 r1.1 cE.1 (.bool false) S6.2) (aj (aw Tryz.prog .eql 3 false true In.1 (.af 3) MB.2) λvW=>bf vW.1 (aj (aR 17 r1.1 vW.2) λvQ=>aj (bA 9 vQ.1 vQ.2) λxi=>aj (aR 17 cE.1 xi.2) λBP=>aj (bU 9 BP.1 xi.1 BP.2) λF1=>cF call x0 r1.1 cE.1 (.bool true) F1.2) (aj (aw Tryz.prog .eql 3 false true In.1 (.af 2) vW.2) λzg=>bf zg.1 (eu call x0 r1.1 cE.1 (.bool false) In.1 zg.1 zg.2) (aj (aw Tryz.prog .eql 3 false true In.1 (.af 4) zg.2) λEC=>eu call x0 r1.1 cE.1 (.bool false) In.1 EC.1 EC.2))))
def rU{x0 x1:ae}{W:AW}{r:ae×AW}(h:jD bl x0 x1 W=some r):bl (.func (.func 35) #[] #[]) [x0,x1] W=some (gc W r):=bO (nt:=132) (n:=2) (by kernel_rfl) (by kernel_rfl) rfl (aH (by kernel_rfl) h)
def mJ(call:Eng.Callee)(R:Nat->ae)(W:AW):Option LT:=aj (aw Tryz.prog .lss 3 false true (R 4) (.af 65) W) λr7=>bf r7.1 (aj (aR 6 (R 3) r7.2) λr8=>aj (EI 65 3 r8.1 (R 4) r8.2) λr9=>aj (aR 0 r9.1 r9.2) λbK=>aj (bU 1 bK.1 (.af (-1)) bK.2) λbN=>aj (aw Tryz.prog .add 3 false true (R 4) (.af 1) bN.2) λcj=>some (X.normal,(bw R [(7,(R 4)),(8,r7.1),(11,(R 4)),(12,r8.1),(13,r9.1),(14,bK.1),(9,(R 4)),(10,cj.1),(4,cj.1)]),cj.2)) (some (X.exit 0,(bw R [(7,(R 4)),(8,r7.1)]),r7.2))
def qZ(call:Eng.Callee)(x0:ae)(W:AW):Option (ae×AW):=aj (cC x0 W) λr1=>aj (bc Tryz.prog 88 r1.2) λr2=>aj (bA 5 r1.1 r2.2) λr3=>aj (bH Tryz.prog 88 [(0,r3.1),(5,(.af (-1)))] r3.2) λr4=>aj (bc Tryz.prog 88 r4.2) λr5=>aj (bU 204 r5.1 r4.1 r5.2) λr6=>aj (du (mJ call) (bw (dQ 0 [x0] ak.blank) [(1,r1.1),(2,r2.1),(5,r3.1),(6,r4.1),(3,r5.1),(4,(.af 0))]) r6.2) λcA=>dE 0 cA.1 (aj (aR 0 (cA.2.1 1) cA.2.2) λcy=>aj (aR 0 cy.1 cy.2) λbX=>aj (aJ bX.1 bX.2) λcg=>aj (aR 0 (cA.2.1 1) cg.2) λcu=>aj (aR 3 cu.1 cu.2) λcE=>aj (aJ cE.1 cE.2) λbY=>aj (aG Tryz.prog .len #[22] 3 #[false] [bY.1] bY.2) λcn=>aj (aw Tryz.prog .add 3 false false cg.1 cn.1 cn.2) λcH=>aj (mO Tryz.prog 64 cH.1 cH.1 cH.2) λcK=>aj (aR 201 (cA.2.1 3) cK.2) λcP=>aj (bU 1 cP.1 cK.1 cP.2) λcZ=>aj (bA 204 (cA.2.1 3) cZ.2) λcW=>aj (bU 204 (cA.2.1 2) cW.1 cW.2) λdA=>aD Tryz.prog [((cA.2.1 2),some 88)] dA.2) (none)
def BC{x0:ae}{W:AW}{r:ae×AW}(h:qZ bl x0 W=some r):bl (.func (.func 37) #[] #[]) [x0] W=some (gc W r):=bO (nt:=26) (n:=1) (by kernel_rfl) (by kernel_rfl) rfl (aH (by kernel_rfl) h)
def gF(call:Eng.Callee)(J2 J4 J6:ae)(W:AW):Option (ae×AW):=aj (aR 2 J6 W) λRO=>aj (aJ RO.1 RO.2) λN9=>aj (aR 6 J2 N9.2) λNN=>aj (EI 65 3 NN.1 N9.1 NN.2) λPm=>aj (aR 1 Pm.1 Pm.2) λM7=>aj (aJ M7.1 M7.2) λPE=>aj (aw Tryz.prog .add 3 false true PE.1 (.af 1) PE.2) λQD=>aj (aR 6 J2 QD.2) λN1=>aj (EI 65 3 N1.1 N9.1 N1.2) λPj=>aj (aR 1 Pj.1 Pj.2) λSE=>aj (bU 1 SE.1 QD.1 SE.2) λSO=>aj (bA 204 J2 SO.2) λQb=>aj (bU 204 J4 Qb.1 Qb.2) λSA=>aD Tryz.prog [(J4,some 88),((.af 0),none)] SA.2
def fD(call:Eng.Callee)(J1 J2 J4 J6:ae)(W:AW):Option (ae×AW):=aj (aR 0 J6 W) λbY=>aj (aJ bY.1 bY.2) λcn=>aj (aw Tryz.prog .eql 3 false true cn.1 (.af 1) cn.2) λcH=>bf cH.1 (aj (bA 204 J2 cH.2) λcK=>aj (call (cN 59) [cK.1,J1] cK.2) λcP=>aj (au cP.1 0 cP.2) λcZ=>aj (au cP.1 1 cZ.2) λcW=>aj (bU 204 J4 cZ.1 cW.2) λdA=>aD Tryz.prog [(J4,some 88),(cW.1,none)] dA.2) (aj (aR 2 J6 cH.2) λdx=>aj (aJ dx.1 dx.2) λdI=>aj (aR 6 J2 dI.2) λdr=>aj (EI 65 3 dr.1 dI.1 dr.2) λeE=>aj (bA 3 eE.1 eE.2) λeh=>aj (bc Tryz.prog 85 eh.2) λej=>aj (bU 3 ej.1 eh.1 ej.2) λdJ=>aj (aR 0 ej.1 dJ.2) λdR=>aj (aJ dR.1 dR.2) λeN=>aj (aw Tryz.prog .lss 3 false true eN.1 (.af 0) eN.2) λeC=>aj (aU (aZ eC.1 false) (aR 5 J2 eC.2) (some (ag,eC.2))) λew=>aj (aU (aZ eC.1 false) (aJ ew.1 ew.2) (some (ag,ew.2))) λgT=>aj (aU (aZ eC.1 false) (aR 0 ej.1 gT.2) (some (ag,gT.2))) λgQ=>aj (aU (aZ eC.1 false) (aJ gQ.1 gQ.2) (some (ag,gQ.2))) λgt=>aj (aU (aZ eC.1 false) (iY 26 gT.1 gt.1 gt.2) (some (ag,gt.2))) λii=>aj (aU (aZ eC.1 false) (aR 0 ii.1 ii.2) (some (ag,ii.2))) λgX=>aj (aU (aZ eC.1 false) (aJ gX.1 gX.2) (some (ag,gX.2))) λiq=>aj (aU (aZ eC.1 false) (aR 3 J6 iq.2) (some (ag,iq.2))) λik=>aj (aU (aZ eC.1 false) (aJ ik.1 ik.2) (some (ag,ik.2))) λgR=>aj (aU (aZ eC.1 false) (aw Tryz.prog .neq 3 false false iq.1 gR.1 gR.2) (some (ag,gR.2))) λkN=>aj (bt eC.1 (.bool true) kN.1 kN.2) λnB=>bf nB.1 (aj (bA 204 J2 nB.2) λod=>aj (bU 204 J4 od.1 od.2) λpv=>aD Tryz.prog [(J4,some 88),((.af 4),none)] pv.2) (aj (aC Tryz.prog 33 0 [] nB.2) λpw=>aj (aR 5 J2 pw.2) λpU=>aj (aJ pU.1 pU.2) λqt=>aj (aO Tryz.prog qt.2 #[33,33] pw.1 qt.1) λtP=>aj (aR 5 J2 tP.2) λqT=>aj (bU 1 qT.1 tP.1 qT.2) λyD=>aj (aR 0 J2 yD.2) λtR=>aj (aR 0 tR.1 tR.2) λyh=>aj (bA 4 yh.1 yh.2) λxH=>aj (aR 5 J2 xH.2) λt6=>aj (aJ t6.1 t6.2) λwN=>aj (aR 0 ej.1 wN.2) λuO=>aj (aJ uO.1 uO.2) λAB=>aj (iY 26 wN.1 AB.1 AB.2) λzm=>aj (aR 2 zm.1 zm.2) λt8=>aj (bA 12 t8.1 t8.2) λza=>aj (call (cN 60) [xH.1,za.1] za.2) λuL=>aj (au uL.1 0 uL.2) λBw=>aj (au uL.1 1 Bw.2) λuC=>aj (aR 0 J6 uC.2) λyj=>aj (aJ yj.1 yj.2) λw7=>aj (aw Tryz.prog .eql 3 false true w7.1 (.af 5) w7.2) λoe=>bf oe.1 (aj (aR 1 ej.1 oe.2) λuI=>aj (aJ uI.1 uI.2) λBl=>aj (aG Tryz.prog .len #[130] 3 #[false] [Bw.1] Bl.2) λwL=>aj (aw Tryz.prog .lss 3 false false Bl.1 wL.1 wL.2) λCv=>bf Cv.1 (aj (bA 204 J2 Cv.2) λuW=>aj (bU 204 J4 uW.1 uW.2) λCt=>aD Tryz.prog [(J4,some 88),((.af 6),none)] Ct.2) (aj (aR 5 J2 Cv.2) λBE=>aj (aJ BE.1 BE.2) λC7=>aj (aR 0 ej.1 C7.2) λFA=>aj (aJ FA.1 FA.2) λFc=>aj (iY 26 C7.1 Fc.1 Fc.2) λDh=>aj (aR 25 Dh.1 Dh.2) λFx=>aj (bU 1 Fx.1 J1 Fx.2) λFU=>aj (aR 2 J6 FU.2) λCA=>aj (aJ CA.1 CA.2) λD0=>aj (bH Tryz.prog 85 [(0,(.af (-1)))] D0.2) λKa=>aj (aR 6 J2 Ka.2) λFz=>aj (EI 65 3 Fz.1 D0.1 Fz.2) λNd=>aj (bU 3 Nd.1 Ka.1 Nd.2) λKL=>aj (bA 204 J2 KL.2) λOM=>aj (bU 204 J4 OM.1 OM.2) λWi=>aD Tryz.prog [(J4,some 88),((.af 0),none)] Wi.2)) (aj (aw Tryz.prog .eql 3 false true w7.1 (.af 6) oe.2) λKA=>bf KA.1 (aj (bA 204 J2 KA.2) λIn=>aj (call (cN 61) [In.1,J1] In.2) λMB=>aj (au MB.1 0 MB.2) λK4=>aj (au MB.1 1 K4.2) λTa=>aj (bU 204 J4 K4.1 Ta.2) λNW=>aD Tryz.prog [(J4,some 88),(Ta.1,none)] NW.2) (aj (bH Tryz.prog 133 [(0,(.af 0)),(1,(.af 0)),(2,(.af 1)),(3,(.af 2)),(4,(.af 3))] KA.2) λS6=>aj (aR 0 J6 S6.2) λvW=>aj (aJ vW.1 vW.2) λvQ=>aj (dU Tryz.prog 133 S6.1 vQ.1 vQ.2) λxi=>aj (aR 1 ej.1 xi.2) λBP=>aj (aJ BP.1 BP.2) λF1=>aj (aG Tryz.prog .len #[130] 3 #[false] [Bw.1] F1.2) λGj=>aj (aw Tryz.prog .geq 3 false false F1.1 Gj.1 Gj.2) λoO=>aj (aU (aZ oO.1 false) (j0 Bw.1 oO.2) (some (ag,oO.2))) λE1=>aj (aU (aZ oO.1 false) (aR 1 ej.1 E1.2) (some (ag,E1.2))) λFD=>aj (aU (aZ oO.1 false) (aJ FD.1 FD.2) (some (ag,FD.2))) λB7=>aj (aU (aZ oO.1 false) (iY 2 E1.1 B7.1 B7.2) (some (ag,B7.2))) λFu=>aj (aU (aZ oO.1 false) (bA 2 Fu.1 Fu.2) (some (ag,Fu.2))) λE6=>aj (aU (aZ oO.1 false) (j0 xi.1 E6.2) (some (ag,E6.2))) λzn=>aj (aU (aZ oO.1 false) (aR 4 J6 zn.2) (some (ag,zn.2))) λGx=>aj (aU (aZ oO.1 false) (aJ Gx.1 Gx.2) (some (ag,Gx.2))) λzg=>aj (aU (aZ oO.1 false) (bH Tryz.prog 135 [(0,zn.1),(1,zg.1)] zg.2) (some (ag,zg.2))) λEC=>aj (aU (aZ oO.1 false) (aw Tryz.prog .neq 135 false false E6.1 EC.1 EC.2) (some (ag,EC.2))) λS0=>aj (bt oO.1 (.bool true) S0.1 S0.2) λIR=>bf IR.1 (aj (bA 204 J2 IR.2) λRh=>aj (bU 204 J4 Rh.1 Rh.2) λTL=>aD Tryz.prog [(J4,some 88),((.af 6),none)] TL.2) (aj (aC Tryz.prog 64 0 [] IR.2) λHW=>aj (aR 201 J2 HW.2) λP4=>aj (aJ P4.1 P4.2) λNn=>aj (aO Tryz.prog Nn.2 #[64,64] HW.1 Nn.1) λP0=>aj (aR 201 J2 P0.2) λPg=>aj (bU 1 Pg.1 P0.1 Pg.2) λSi=>aj (aR 0 J6 Si.2) λQ9=>aj (aJ Q9.1 Q9.2) λMp=>aj (aw Tryz.prog .eql 3 false true Mp.1 (.af 2) Mp.2) λJF=>bf JF.1 (aj (aR 201 J2 JF.2) λPL=>aj (aJ PL.1 PL.2) λRv=>aj (aR 4 J6 Rv.2) λFZ=>aj (aJ FZ.1 FZ.2) λQm=>aj (iY 1 Rv.1 Qm.1 Qm.2) λOH=>aj (aJ OH.1 OH.2) λPT=>aj (aw Tryz.prog .neq 3 false true PT.1 (.af 0) PT.2) λNZ=>bf NZ.1 (aj (bA 204 J2 NZ.2) λM5=>aj (bU 204 J4 M5.1 M5.2) λUz=>aD Tryz.prog [(J4,some 88),((.af 20),none)] Uz.2) (aj (aR 201 J2 NZ.2) λPU=>aj (aJ PU.1 PU.2) λNj=>aj (aR 4 J6 Nj.2) λQL=>aj (aJ QL.1 QL.2) λOl=>aj (aR 3 J6 Ol.2) λP7=>aj (aJ P7.1 P7.2) λQz=>aj (iY 1 Nj.1 Ol.1 Qz.2) λMg=>aj (bU 1 Mg.1 Qz.1 Mg.2) λUr=>gF call J2 J4 J6 Ur.2)) (aj (aw Tryz.prog .eql 3 false true Mp.1 (.af 4) JF.2) λOj=>bf Oj.1 (aj (aR 201 J2 Oj.2) λHB=>aj (aJ HB.1 HB.2) λSz=>aj (aR 4 J6 Sz.2) λNS=>aj (aJ NS.1 NS.2) λQv=>aj (iY 1 Sz.1 Qv.1 Qv.2) λQq=>aj (bU 1 Qq.1 (.af 0) Qq.2) λPw=>gF call J2 J4 J6 Pw.2) (aj (aR 5 J2 Oj.2) λTI=>aj (aJ TI.1 TI.2) λMD=>aj (aR 0 ej.1 MD.2) λR4=>aj (aJ R4.1 R4.2) λRx=>aj (aR 5 J2 Rx.2) λOv=>aj (aJ Ov.1 Ov.2) λJc=>aj (aR 0 ej.1 Jc.2) λNP=>aj (aJ NP.1 NP.2) λPG=>aj (aR 17 J6 PG.2) λM4=>aj (bA 9 M4.1 M4.2) λKj=>aj (iY 26 MD.1 Rx.1 Kj.2) λPX=>aj (aR 24 PX.1 PX.2) λN4=>aj (bU 1 N4.1 J1 N4.2) λIx=>aU (rP true (bA 9 M4.1 Ix.2) Kj.1&&(rP true (aJ NP.1 Ix.2) PG.1&&(rP true (aJ Ov.1 Ix.2) Jc.1&&true))) (aj (iY 26 Jc.1 PG.1 Ix.2) λRw=>aj (aR 14 Rw.1 Rw.2) λL5=>aj (bU 9 L5.1 Kj.1 L5.2) λUX=>gF call J2 J4 J6 UX.2) none)))))))
def kK(call:Eng.Callee)(J1 J2 J4 J6 J7:ae)(W:AW):Option (ae×AW):=aj (aw Tryz.prog .neq 30 false true J7 (.af 0) W) λcj=>bf cj.1 (aj (bA 204 J2 cj.2) λcA=>aj (bU 204 J4 cA.1 cA.2) λcy=>aD Tryz.prog [(J4,some 88),(J7,none)] cy.2) (aj (aR 1 J6 cj.2) λbX=>aj (aJ bX.1 bX.2) λcg=>aj (aR 202 J2 cg.2) λcu=>aj (bU 1 cu.1 cg.1 cu.2) λcE=>aj (bA 31 J6 cE.2) λPF=>aj (call (cN 58) [PF.1] PF.2) λMG=>bf MG.1 (aj (aR 1 J6 MG.2) λNu=>aj (aJ Nu.1 Nu.2) λR5=>aj (aR 203 J2 R5.2) λR6=>aj (bU 1 R6.1 R5.1 R6.2) λQQ=>fD call J1 J2 J4 J6 QQ.2) (fD call J1 J2 J4 J6 MG.2))
def iM(call:Eng.Callee)(J1 J2 J4 J6 J7:ae)(W:AW):Option (ae×AW):=aj (aw Tryz.prog .eql 30 false true J7 (.af 0) W) λxl=>aj (aU (aZ xl.1 true) (aR 1 J6 xl.2) (some (ag,xl.2))) λND=>aj (aU (aZ xl.1 true) (aJ ND.1 ND.2) (some (ag,ND.2))) λFf=>aj (aU (aZ xl.1 true) (aR 202 J2 Ff.2) (some (ag,Ff.2))) λME=>aj (aU (aZ xl.1 true) (aJ ME.1 ME.2) (some (ag,ME.2))) λIv=>aj (aU (aZ xl.1 true) (aw Tryz.prog .lss 3 false false Ff.1 Iv.1 Iv.2) (some (ag,Iv.2))) λNR=>aj (aU (aZ xl.1 true) (j0 NR.1 NR.2) (some (ag,NR.2))) λCH=>aj (aU (aZ CH.1 false) (bA 31 J6 CH.2) (some (ag,CH.2))) λIo=>aj (aU (aZ CH.1 false) (call (cN 58) [Io.1] Io.2) (some (ag,Io.2))) λOd=>aj (aU (aZ CH.1 false) (j0 Od.1 Od.2) (some (ag,Od.2))) λAQ=>aj (aU (aZ AQ.1 true) (aR 1 J6 AQ.2) (some (ag,AQ.2))) λEi=>aj (aU (aZ AQ.1 true) (aJ Ei.1 Ei.2) (some (ag,Ei.2))) λLY=>aj (aU (aZ AQ.1 true) (aR 203 J2 LY.2) (some (ag,LY.2))) λJg=>aj (aU (aZ AQ.1 true) (aJ Jg.1 Jg.2) (some (ag,Jg.2))) λNT=>aj (aU (aZ AQ.1 true) (aw Tryz.prog .leq 3 false false LY.1 NT.1 NT.2) (some (ag,NT.2))) λMq=>aj (aU (aZ CH.1 false) (bt AQ.1 Mq.1 (.bool false) Mq.2) (some (ag,Mq.2))) λIC=>aj (aU (aZ xl.1 true) (bt CH.1 (.bool true) IC.1 IC.2) (some (ag,IC.2))) λSx=>aj (bt xl.1 Sx.1 (.bool false) Sx.2) λMV=>bf MV.1 (kK call J1 J2 J4 J6 (.af 18) MV.2) (kK call J1 J2 J4 J6 J7 MV.2)
def Ai(call:Eng.Callee)(x0 x1:ae)(W:AW):Option (ae×AW):=aj (cC x0 W) λr1=>aj (bc Tryz.prog 88 r1.2) λr2=>aj (aR 0 r1.1 r2.2) λr3=>aj (aR 4 r3.1 r3.2) λr4=>aj (aJ r4.1 r4.2) λr5=>aj (iY 31 r5.1 x1 r5.2) λr6=>aj (bA 31 r6.1 r6.2) λr7=>aj (bc Tryz.prog 98 r7.2) λr8=>aj (bU 31 r8.1 r7.1 r8.2) λr9=>aj (bA 31 r8.1 r9.2) λbK=>aj (call (cN 57) [bK.1] bK.2) λbN=>aj (aw Tryz.prog .eql 30 false true bN.1 (.af 0) bN.2) λtu=>aj (aU (aZ tu.1 true) (aR 1 r8.1 tu.2) (some (ag,tu.2))) λNb=>aj (aU (aZ tu.1 true) (aJ Nb.1 Nb.2) (some (ag,Nb.2))) λIG=>aj (aU (aZ tu.1 true) (aw Tryz.prog .lss 3 false true IG.1 (.af 0) IG.2) (some (ag,IG.2))) λMy=>aj (aU (aZ tu.1 true) (j0 My.1 My.2) (some (ag,My.2))) λDY=>aj (aU (aZ DY.1 false) (aR 1 r8.1 DY.2) (some (ag,DY.2))) λJL=>aj (aU (aZ DY.1 false) (aJ JL.1 JL.2) (some (ag,JL.2))) λNz=>aj (aU (aZ DY.1 false) (aw Tryz.prog .gtr 3 false true Nz.1 (.af 1000000000) Nz.2) (some (ag,Nz.2))) λOb=>aj (aU (aZ tu.1 true) (bt DY.1 (.bool true) Ob.1 Ob.2) (some (ag,Ob.2))) λEf=>aj (aU (aZ tu.1 true) (j0 Ef.1 Ef.2) (some (ag,Ef.2))) λEz=>aj (aU (aZ Ez.1 false) (aR 2 r8.1 Ez.2) (some (ag,Ez.2))) λIt=>aj (aU (aZ Ez.1 false) (aJ It.1 It.2) (some (ag,It.2))) λL1=>aj (aU (aZ Ez.1 false) (aw Tryz.prog .lss 3 false true L1.1 (.af 1) L1.2) (some (ag,L1.2))) λOo=>aj (aU (aZ tu.1 true) (bt Ez.1 (.bool true) Oo.1 Oo.2) (some (ag,Oo.2))) λJl=>aj (aU (aZ tu.1 true) (j0 Jl.1 Jl.2) (some (ag,Jl.2))) λEg=>aj (aU (aZ Eg.1 false) (aR 2 r8.1 Eg.2) (some (ag,Eg.2))) λOh=>aj (aU (aZ Eg.1 false) (aJ Oh.1 Oh.2) (some (ag,Oh.2))) λEy=>aj (aU (aZ Eg.1 false) (aw Tryz.prog .gtr 3 false true Ey.1 (.af 64) Ey.2) (some (ag,Ey.2))) λNc=>aj (aU (aZ tu.1 true) (bt Eg.1 (.bool true) Nc.1 Nc.2) (some (ag,Nc.2))) λOe=>aj (bt tu.1 Oe.1 (.bool false) Oe.2) λL0=>bf L0.1 (iM call x1 r1.1 r2.1 r8.1 (.af 7) L0.2) (iM call x1 r1.1 r2.1 r8.1 bN.1 L0.2)
def C9{x0 x1:ae}{W:AW}{r:ae×AW}(h:Ai bl x0 x1 W=some r):bl (.func (.func 38) #[] #[]) [x0,x1] W=some (gc W r):=bO (nt:=231) (n:=2) (by kernel_rfl) (by kernel_rfl) rfl (aH (by kernel_rfl) h)
def mM(call:Eng.Callee)(x0 x1:ae)(W:AW):Option (ae×AW):=aj (cC x1 W) λr1=>aj (aW x0 r1.2) λr2=>aj (aR 6 r2.1 r2.2) λr3=>aj (aJ r3.1 r3.2) λr4=>aj (aR 2 r1.1 r4.2) λr5=>aj (aJ r5.1 r5.2) λr6=>aj (gS Tryz.prog 91 r4.1 r6.1 false r6.2) λr7=>aj (aw Tryz.prog .neq 123 false true r7.1 (.pointer none) r7.2) λr8=>bf r8.1 (aD Tryz.prog [((.af 8),none)] r8.2) (aj (aW x0 r8.2) λr9=>aj (aR 5 r9.1 r9.2) λbK=>aj (aJ bK.1 bK.2) λbN=>aj (aG Tryz.prog .len #[33] 3 #[false] [bN.1] bN.2) λcj=>aj (aw Tryz.prog .eql 3 false true cj.1 (.af 200) cj.2) λcA=>bf cA.1 (aD Tryz.prog [((.af 3),none)] cA.2) (aj (aR 3 r1.1 cA.2) λcy=>aj (aJ cy.1 cy.2) λbX=>aj (aW x0 bX.2) λcg=>aj (aR 5 cg.1 cg.2) λcu=>aj (aJ cu.1 cu.2) λcE=>aj (aG Tryz.prog .len #[33] 3 #[false] [cE.1] cE.2) λbY=>aj (aw Tryz.prog .add 3 false true bY.1 (.af 1) bY.2) λcn=>aj (aw Tryz.prog .neq 3 false false bX.1 cn.1 cn.2) λcH=>bf cH.1 (aD Tryz.prog [((.af 6),none)] cH.2) (aj (aR 5 r1.1 cH.2) λcK=>aj (bA 12 cK.1 cK.2) λcP=>aj (call (cN 75) [cP.1] cP.2) λcZ=>aj (aw Tryz.prog .neq 30 false true cZ.1 (.af 0) cZ.2) λcW=>bf cW.1 (aD Tryz.prog [(cZ.1,none)] cW.2) (aj (aW x0 cW.2) λdA=>aj (aR 6 dA.1 dA.2) λdx=>aj (aJ dx.1 dx.2) λdI=>aj (aR 2 r1.1 dI.2) λdr=>aj (aJ dr.1 dr.2) λeE=>aj (aW x0 eE.2) λeh=>aj (aR 5 eh.1 eh.2) λej=>aj (aJ ej.1 ej.2) λdJ=>aj (aG Tryz.prog .len #[33] 3 #[false] [dJ.1] dJ.2) λdR=>aj (bH Tryz.prog 125 [(0,dR.1)] dR.2) λeN=>aj (cC eN.1 eN.2) λeC=>aj (g8 Tryz.prog 91 dI.1 eE.1 eC.1 eC.2) λew=>aj (aW x0 ew.2) λgT=>aj (aR 5 gT.1 gT.2) λgQ=>aj (aJ gQ.1 gQ.2) λgt=>aj (aR 3 r1.1 gt.2) λii=>aj (aJ ii.1 ii.2) λgX=>aj (aR 2 r1.1 gX.2) λiq=>aj (aJ iq.1 iq.2) λik=>aj (aR 5 r1.1 ik.2) λgR=>aj (bA 12 gR.1 gR.2) λkN=>aj (aW x0 kN.2) λnB=>aj (aR 10 nB.1 nB.2) λod=>aj (aJ od.1 od.2) λpv=>aj (bH Tryz.prog 45 [(0,gX.1),(1,ik.1),(2,kN.1),(4,pv.1),(5,(.af (-1))),(6,(.af (-1)))] pv.2) λpw=>aj (aC Tryz.prog 33 1 [(0,pw.1)] pw.2) λpU=>aj (aO Tryz.prog pU.2 #[33,33] gt.1 pU.1) λqt=>aj (aW x0 qt.2) λtP=>aj (aR 5 tP.1 tP.2) λqT=>aj (bU 1 qT.1 qt.1 qT.2) λyD=>aD Tryz.prog [((.af 0),none)] yD.2))))
def qJ{x0 x1:ae}{W:AW}{r:ae×AW}(h:mM bl x0 x1 W=some r):bl (.func (.func 48) #[] #[]) [x0,x1] W=some (gc W r):=bO (nt:=71) (n:=2) (by kernel_rfl) (by kernel_rfl) rfl (aH (by kernel_rfl) h)
def oX(call:Eng.Callee)(x0 x1:ae)(W:AW):Option (ae×AW):=aj (cC x1 W) λr1=>aj (bA 31 r1.1 r1.2) λr2=>aj (call (cN 76) [x0,r2.1,(.af 1)] r2.2) λr3=>aj (aw Tryz.prog .neq 30 false true r3.1 (.af 0) r3.2) λr4=>bf r4.1 (aD Tryz.prog [(r3.1,none)] r4.2) (aj (aW x0 r4.2) λr5=>aj (aR 7 r5.1 r5.2) λr6=>aj (aJ r6.1 r6.2) λr7=>aj (aR 4 r1.1 r7.2) λr8=>aj (aJ r8.1 r8.2) λr9=>aj (gS Tryz.prog 92 r7.1 r9.1 true r9.2) λbK=>aj (au bK.1 0 bK.2) λbN=>aj (au bK.1 1 bN.2) λcj=>bf cj.1 (aD Tryz.prog [((.af 20),none)] cj.2) (aj (aW x0 cj.2) λcA=>aj (aR 7 cA.1 cA.2) λcy=>aj (aJ cy.1 cy.2) λbX=>aj (aR 4 r1.1 bX.2) λcg=>aj (aJ cg.1 cg.2) λcu=>aj (aR 3 r1.1 cu.2) λcE=>aj (aJ cE.1 cE.2) λbY=>aj (g8 Tryz.prog 92 bX.1 cu.1 bY.1 bY.2) λcn=>aD Tryz.prog [((.af 0),none)] cn.2))
def tz{x0 x1:ae}{W:AW}{r:ae×AW}(h:oX bl x0 x1 W=some r):bl (.func (.func 49) #[] #[]) [x0,x1] W=some (gc W r):=bO (nt:=33) (n:=2) (by kernel_rfl) (by kernel_rfl) rfl (aH (by kernel_rfl) h)
def mX(call:Eng.Callee)(x0 x1:ae)(W:AW):Option (ae×AW):=aj (cC x1 W) λr1=>aj (aW x0 r1.2) λr2=>aj (aR 5 r2.1 r2.2) λr3=>aj (aJ r3.1 r3.2) λr4=>aj (aW x0 r4.2) λr5=>aj (aR 6 r5.1 r5.2) λr6=>aj (aJ r6.1 r6.2) λr7=>aj (aR 2 r1.1 r7.2) λr8=>aj (aJ r8.1 r8.2) λr9=>aj (gS Tryz.prog 91 r7.1 r9.1 false r9.2) λbK=>aj (aW bK.1 bK.2) λbN=>aj (aR 0 bN.1 bN.2) λcj=>aj (aJ cj.1 cj.2) λcA=>aj (iY 26 r4.1 cA.1 cA.2) λcy=>aj (aW x0 cy.2) λbX=>aj (aR 10 bX.1 bX.2) λcg=>aj (aJ cg.1 cg.2) λcu=>aj (aR 17 r1.1 cu.2) λcE=>aj (bA 9 cE.1 cE.2) λbY=>aj (aW cy.1 bY.2) λcn=>aj (aR 24 cn.1 cn.2) λcH=>aj (bU 1 cH.1 cu.1 cH.2) λcK=>aU (rP true (bA 9 cE.1 cK.2) bY.1&&true) (aj (aW cy.1 cK.2) λcP=>aj (aR 14 cP.1 cP.2) λcZ=>aj (bU 9 cZ.1 bY.1 cZ.2) λcW=>aj (bA 31 r1.1 cW.2) λdA=>aj (call (cN 76) [x0,dA.1,(.af 2)] dA.2) λdx=>aD Tryz.prog [(dx.1,none)] dx.2) none
def qI{x0 x1:ae}{W:AW}{r:ae×AW}(h:mX bl x0 x1 W=some r):bl (.func (.func 50) #[] #[]) [x0,x1] W=some (gc W r):=bO (nt:=36) (n:=2) (by kernel_rfl) (by kernel_rfl) rfl (aH (by kernel_rfl) h)
def oM(call:Eng.Callee)(x0 x1:ae)(W:AW):Option (ae×AW):=aj (cC x1 W) λr1=>aj (aW x0 r1.2) λr2=>aj (aR 7 r2.1 r2.2) λr3=>aj (aJ r3.1 r3.2) λr4=>aj (aR 4 r1.1 r4.2) λr5=>aj (aJ r5.1 r5.2) λr6=>aj (aG Tryz.prog .delete #[92,3] 0 #[false,false] [r4.1,r6.1] r6.2) λr7=>aj (bA 31 r1.1 r7.2) λr8=>aj (call (cN 76) [x0,r8.1,(.af 3)] r8.2) λr9=>aD Tryz.prog [(r9.1,none)] r9.2
def tv{x0 x1:ae}{W:AW}{r:ae×AW}(h:oM bl x0 x1 W=some r):bl (.func (.func 51) #[] #[]) [x0,x1] W=some (gc W r):=bO (nt:=14) (n:=2) (by kernel_rfl) (by kernel_rfl) rfl (aH (by kernel_rfl) h)
def mH(call:Eng.Callee)(x0 x1:ae)(W:AW):Option (ae×AW):=aj (cC x1 W) λr1=>aj (aW x0 r1.2) λr2=>aj (aR 6 r2.1 r2.2) λr3=>aj (aJ r3.1 r3.2) λr4=>aj (aR 2 r1.1 r4.2) λr5=>aj (aJ r5.1 r5.2) λr6=>aj (gS Tryz.prog 91 r4.1 r6.1 false r6.2) λr7=>aj (aW x0 r7.2) λr8=>aj (aR 0 r8.1 r8.2) λr9=>aj (aR 0 r9.1 r9.2) λbK=>aj (bA 4 bK.1 bK.2) λbN=>aj (aW x0 bN.2) λcj=>aj (aR 5 cj.1 cj.2) λcA=>aj (aJ cA.1 cA.2) λcy=>aj (aW r7.1 cy.2) λbX=>aj (aR 0 bX.1 bX.2) λcg=>aj (aJ cg.1 cg.2) λcu=>aj (iY 26 cy.1 cu.1 cu.2) λcE=>aj (aR 2 cE.1 cE.2) λbY=>aj (bA 12 bY.1 bY.2) λcn=>aj (call (cN 77) [bN.1,cn.1] cn.2) λcH=>aj (au cH.1 0 cH.2) λcK=>aj (au cH.1 1 cK.2) λcP=>aj (aW r7.1 cP.2) λcZ=>aj (aR 1 cZ.1 cZ.2) λcW=>aj (aJ cW.1 cW.2) λdA=>aj (aw Tryz.prog .lss 3 false false dA.1 cK.1 dA.2) λdx=>bf dx.1 (aD Tryz.prog [((.af 6),none)] dx.2) (aj (aW x0 dx.2) λdI=>aj (aR 5 dI.1 dI.2) λdr=>aj (aJ dr.1 dr.2) λeE=>aj (aW r7.1 eE.2) λeh=>aj (aR 0 eh.1 eh.2) λej=>aj (aJ ej.1 ej.2) λdJ=>aj (aW x0 dJ.2) λdR=>aj (aR 10 dR.1 dR.2) λeN=>aj (aJ eN.1 eN.2) λeC=>aj (iY 26 eE.1 dJ.1 eC.2) λew=>aj (aR 25 ew.1 ew.2) λgT=>aj (bU 1 gT.1 eC.1 gT.2) λgQ=>aj (aW x0 gQ.2) λgt=>aj (aR 6 gt.1 gt.2) λii=>aj (aJ ii.1 ii.2) λgX=>aj (aR 2 r1.1 gX.2) λiq=>aj (aJ iq.1 iq.2) λik=>aj (aG Tryz.prog .delete #[91,3] 0 #[false,false] [gX.1,ik.1] ik.2) λgR=>aD Tryz.prog [((.af 0),none)] gR.2)
def qF{x0 x1:ae}{W:AW}{r:ae×AW}(h:mH bl x0 x1 W=some r):bl (.func (.func 52) #[] #[]) [x0,x1] W=some (gc W r):=bO (nt:=61) (n:=2) (by kernel_rfl) (by kernel_rfl) rfl (aH (by kernel_rfl) h)
def nY(call:Eng.Callee)(x0 x1:ae)(W:AW):Option (ae×AW):=aj (cC x1 W) λr1=>aj (aW x0 r1.2) λr2=>aj (aR 6 r2.1 r2.2) λr3=>aj (aJ r3.1 r3.2) λr4=>aj (aR 2 r1.1 r4.2) λr5=>aj (aJ r5.1 r5.2) λr6=>aj (gS Tryz.prog 91 r4.1 r6.1 false r6.2) λr7=>aj (aW x0 r7.2) λr8=>aj (aR 5 r8.1 r8.2) λr9=>aj (aJ r9.1 r9.2) λbK=>aj (aW r7.1 bK.2) λbN=>aj (aR 0 bN.1 bN.2) λcj=>aj (aJ cj.1 cj.2) λcA=>aj (iY 26 bK.1 cA.1 cA.2) λcy=>aj (bA 26 cy.1 cy.2) λbX=>aj (bc Tryz.prog 45 bX.2) λcg=>aj (bU 26 cg.1 bX.1 cg.2) λcu=>aj (aR 2 cg.1 cu.2) λcE=>aj (aR 7 cE.1 cE.2) λbY=>aj (bA 4 bY.1 bY.2) λcn=>aj (aR 26 r1.1 cn.2) λcH=>aj (bA 5 cH.1 cH.2) λcK=>aj (bc Tryz.prog 39 cK.2) λcP=>aj (bc Tryz.prog 60 cP.2) λcZ=>aj (bU 4 cP.1 cn.1 cZ.2) λcW=>aU (rP true (bA 5 cH.1 cW.2) cK.1&&true) (aj (bU 5 cZ.1 cK.1 cW.2) λdA=>aj (aR 0 cZ.1 dA.2) λdx=>aj (aJ dx.1 dx.2) λdI=>aj (aR 0 cP.1 dI.2) λdr=>aj (aJ dr.1 dr.2) λeE=>aj (aw Tryz.prog .eql 36 false false dI.1 eE.1 eE.2) λeh=>aj (aU (aZ eh.1 true) (aR 1 cZ.1 eh.2) (some (ag,eh.2))) λej=>aj (aU (aZ eh.1 true) (aJ ej.1 ej.2) (some (ag,ej.2))) λdJ=>aj (aU (aZ eh.1 true) (aR 2 cP.1 dJ.2) (some (ag,dJ.2))) λdR=>aj (aU (aZ eh.1 true) (aJ dR.1 dR.2) (some (ag,dR.2))) λeN=>aj (aU (aZ eh.1 true) (aw Tryz.prog .eql 37 false false dJ.1 eN.1 eN.2) (some (ag,eN.2))) λeC=>aj (bt eh.1 eC.1 (.bool false) eC.2) λew=>aj (aU (aZ ew.1 true) (aR 2 cZ.1 ew.2) (some (ag,ew.2))) λgT=>aj (aU (aZ ew.1 true) (aJ gT.1 gT.2) (some (ag,gT.2))) λgQ=>aj (aU (aZ ew.1 true) (aR 3 cP.1 gQ.2) (some (ag,gQ.2))) λgt=>aj (aU (aZ ew.1 true) (aJ gt.1 gt.2) (some (ag,gt.2))) λii=>aj (aU (aZ ew.1 true) (aw Tryz.prog .eql 37 false false gQ.1 ii.1 ii.2) (some (ag,ii.2))) λgX=>aj (bt ew.1 gX.1 (.bool false) gX.2) λiq=>aj (aR 2 cg.1 iq.2) λik=>aj (aR 0 ik.1 ik.2) λgR=>aj (aJ gR.1 gR.2) λkN=>aj (aw Tryz.prog .neq 3 false true kN.1 (.af 9) kN.2) λnB=>aj (aU (aZ nB.1 false) (aR 24 cg.1 nB.2) (some (ag,nB.2))) λod=>aj (aU (aZ nB.1 false) (aJ od.1 od.2) (some (ag,od.2))) λpv=>aj (aU (aZ nB.1 false) (aw Tryz.prog .lss 3 false true pv.1 (.af 0) pv.2) (some (ag,pv.2))) λpw=>aj (bt nB.1 (.bool true) pw.1 pw.2) λpU=>aj (aU (aZ pU.1 false) (aR 14 cg.1 pU.2) (some (ag,pU.2))) λqt=>aj (aU (aZ pU.1 false) (aR 0 qt.1 qt.2) (some (ag,qt.2))) λtP=>aj (aU (aZ pU.1 false) (aJ tP.1 tP.2) (some (ag,tP.2))) λqT=>aj (aU (aZ pU.1 false) (aw Tryz.prog .neq 30 false true qT.1 (.af 0) qT.2) (some (ag,qT.2))) λyD=>aj (bt pU.1 (.bool true) yD.1 yD.2) λtR=>aj (aU (aZ tR.1 false) (j0 r7.1 tR.2) (some (ag,tR.2))) λyh=>aj (aU (aZ tR.1 false) (aW yh.1 yh.2) (some (ag,yh.2))) λxH=>aj (aU (aZ tR.1 false) (aR 2 xH.1 xH.2) (some (ag,xH.2))) λt6=>aj (aU (aZ tR.1 false) (aJ t6.1 t6.2) (some (ag,t6.2))) λwN=>aj (bt tR.1 (.bool true) wN.1 wN.2) λuO=>aj (aU (aZ uO.1 false) (j0 iq.1 uO.2) (some (ag,uO.2))) λAB=>aj (aU (aZ uO.1 false) (CP Tryz.prog .not AB.1 AB.2) (some (ag,AB.2))) λzm=>aj (bt uO.1 (.bool true) zm.1 zm.2) λt8=>aj (aU (aZ t8.1 false) (aR 3 cZ.1 t8.2) (some (ag,t8.2))) λza=>aj (aU (aZ t8.1 false) (aJ za.1 za.2) (some (ag,za.2))) λuL=>aj (aU (aZ t8.1 false) (aw Tryz.prog .lss 3 false true uL.1 (.af 0) uL.2) (some (ag,uL.2))) λBw=>aj (bt t8.1 (.bool true) Bw.1 Bw.2) λuC=>aj (aU (aZ uC.1 false) (aR 3 cZ.1 uC.2) (some (ag,uC.2))) λyj=>aj (aU (aZ uC.1 false) (aJ yj.1 yj.2) (some (ag,yj.2))) λw7=>aj (aU (aZ uC.1 false) (aw Tryz.prog .geq 3 false true w7.1 (.af 8) w7.2) (some (ag,w7.2))) λoe=>aj (bt uC.1 (.bool true) oe.1 oe.2) λuI=>aj (aU (aZ uI.1 false) (aR 4 cZ.1 uI.2) (some (ag,uI.2))) λBl=>aj (aU (aZ uI.1 false) (aJ Bl.1 Bl.2) (some (ag,Bl.2))) λwL=>aj (aU (aZ uI.1 false) (aw Tryz.prog .lss 2 false true wL.1 (.af 0) wL.2) (some (ag,wL.2))) λCv=>aj (bt uI.1 (.bool true) Cv.1 Cv.2) λuW=>bf uW.1 (aD Tryz.prog [((.af 6),none)] uW.2) (aj (aW r7.1 uW.2) λCt=>aj (aR 2 Ct.1 Ct.2) λBE=>aj (bU 1 BE.1 (.bool true) BE.2) λC7=>aD Tryz.prog [((.af 0),none)] C7.2)) none
def sk{x0 x1:ae}{W:AW}{r:ae×AW}(h:nY bl x0 x1 W=some r):bl (.func (.func 53) #[] #[]) [x0,x1] W=some (gc W r):=bO (nt:=94) (n:=2) (by kernel_rfl) (by kernel_rfl) rfl (aH (by kernel_rfl) h)
def vp(call:Eng.Callee)(x0:ae)(W:AW):Option (ae×AW):=aj (cC x0 W) λr1=>aj (aR 0 r1.1 r1.2) λr2=>aj (aJ r2.1 r2.2) λr3=>aj (aw Tryz.prog .lss 3 false true r3.1 (.af 1) r3.2) λr4=>aj (aU (aZ r4.1 false) (aR 0 r1.1 r4.2) (some (ag,r4.2))) λr5=>aj (aU (aZ r4.1 false) (aJ r5.1 r5.2) (some (ag,r5.2))) λr6=>aj (aU (aZ r4.1 false) (aw Tryz.prog .gtr 3 false true r6.1 (.af 6) r6.2) (some (ag,r6.2))) λr7=>aj (bt r4.1 (.bool true) r7.1 r7.2) λr8=>bf r8.1 (aD Tryz.prog [((.af 2),none)] r8.2) (aj (aR 0 r1.1 r8.2) λr9=>aj (aJ r9.1 r9.2) λbK=>aj (aw Tryz.prog .neq 3 false true bK.1 (.af 1) bK.2) λbN=>aj (aU (aZ bN.1 true) (aR 5 r1.1 bN.2) (some (ag,bN.2))) λcj=>aj (aU (aZ bN.1 true) (bA 12 cj.1 cj.2) (some (ag,cj.2))) λcA=>aj (aU (aZ bN.1 true) (bH Tryz.prog 41 [] cA.2) (some (ag,cA.2))) λcy=>aj (aU (aZ bN.1 true) (aw Tryz.prog .neq 41 false false cA.1 cy.1 cy.2) (some (ag,cy.2))) λbX=>aj (bt bN.1 bX.1 (.bool false) bX.2) λcg=>aj (aU (aZ cg.1 false) (aR 0 r1.1 cg.2) (some (ag,cg.2))) λcu=>aj (aU (aZ cg.1 false) (aJ cu.1 cu.2) (some (ag,cu.2))) λcE=>aj (aU (aZ cg.1 false) (aw Tryz.prog .neq 3 false true cE.1 (.af 2) cE.2) (some (ag,cE.2))) λbY=>aj (aU (aZ cg.1 false) (j0 bY.1 bY.2) (some (ag,bY.2))) λcn=>aj (aU (aZ cn.1 true) (aR 0 r1.1 cn.2) (some (ag,cn.2))) λcH=>aj (aU (aZ cn.1 true) (aJ cH.1 cH.2) (some (ag,cH.2))) λcK=>aj (aU (aZ cn.1 true) (aw Tryz.prog .neq 3 false true cK.1 (.af 4) cK.2) (some (ag,cK.2))) λcP=>aj (aU (aZ cg.1 false) (bt cn.1 cP.1 (.bool false) cP.2) (some (ag,cP.2))) λcZ=>aj (aU (aZ cg.1 false) (j0 cZ.1 cZ.2) (some (ag,cZ.2))) λcW=>aj (aU (aZ cW.1 true) (aR 4 r1.1 cW.2) (some (ag,cW.2))) λdA=>aj (aU (aZ cW.1 true) (aJ dA.1 dA.2) (some (ag,dA.2))) λdx=>aj (aU (aZ cW.1 true) (aw Tryz.prog .neq 3 false true dx.1 (.af 0) dx.2) (some (ag,dx.2))) λdI=>aj (aU (aZ cg.1 false) (bt cW.1 dI.1 (.bool false) dI.2) (some (ag,dI.2))) λdr=>aj (bt cg.1 (.bool true) dr.1 dr.2) λeE=>aj (aU (aZ eE.1 false) (aR 0 r1.1 eE.2) (some (ag,eE.2))) λeh=>aj (aU (aZ eE.1 false) (aJ eh.1 eh.2) (some (ag,eh.2))) λej=>aj (aU (aZ eE.1 false) (aw Tryz.prog .neq 3 false true ej.1 (.af 3) ej.2) (some (ag,ej.2))) λdJ=>aj (aU (aZ eE.1 false) (j0 dJ.1 dJ.2) (some (ag,dJ.2))) λdR=>aj (aU (aZ dR.1 true) (aR 17 r1.1 dR.2) (some (ag,dR.2))) λeN=>aj (aU (aZ dR.1 true) (bA 9 eN.1 eN.2) (some (ag,eN.2))) λeC=>aj (aU (aZ dR.1 true) (bH Tryz.prog 43 [] eC.2) (some (ag,eC.2))) λew=>aj (aU (aZ dR.1 true) (aw Tryz.prog .neq 43 false false eC.1 ew.1 ew.2) (some (ag,ew.2))) λgT=>aj (aU (aZ eE.1 false) (bt dR.1 gT.1 (.bool false) gT.2) (some (ag,gT.2))) λgQ=>aj (bt eE.1 (.bool true) gQ.1 gQ.2) λgt=>aj (aU (aZ gt.1 false) (aR 0 r1.1 gt.2) (some (ag,gt.2))) λii=>aj (aU (aZ gt.1 false) (aJ ii.1 ii.2) (some (ag,ii.2))) λgX=>aj (aU (aZ gt.1 false) (aw Tryz.prog .neq 3 false true gX.1 (.af 6) gX.2) (some (ag,gX.2))) λiq=>aj (aU (aZ gt.1 false) (j0 iq.1 iq.2) (some (ag,iq.2))) λik=>aj (aU (aZ ik.1 true) (aR 26 r1.1 ik.2) (some (ag,ik.2))) λgR=>aj (aU (aZ ik.1 true) (bA 5 gR.1 gR.2) (some (ag,gR.2))) λkN=>aj (aU (aZ ik.1 true) (bH Tryz.prog 60 [] kN.2) (some (ag,kN.2))) λnB=>aj (aU (aZ ik.1 true) (aw Tryz.prog .neq 60 false false kN.1 nB.1 nB.2) (some (ag,nB.2))) λod=>aj (aU (aZ gt.1 false) (bt ik.1 od.1 (.bool false) od.2) (some (ag,od.2))) λpv=>aj (bt gt.1 (.bool true) pv.1 pv.2) λpw=>bf pw.1 (aD Tryz.prog [((.af 2),none)] pw.2) (aD Tryz.prog [((.af 0),none)] pw.2))
def zp{x0:ae}{W:AW}{r:ae×AW}(h:vp bl x0 W=some r):bl (.func (.func 57) #[] #[]) [x0] W=some (gc W r):=bO (nt:=57) (n:=1) (by kernel_rfl) (by kernel_rfl) rfl (aH (by kernel_rfl) h)
def DJ(call:Eng.Callee)(x0:ae)(W:AW):Option (ae×AW):=aj (cC x0 W) λr1=>aj (aR 0 r1.1 r1.2) λr2=>aj (aJ r2.1 r2.2) λr3=>aj (aw Tryz.prog .geq 3 false true r3.1 (.af 2) r3.2) λr4=>aj (aU (aZ r4.1 true) (aR 0 r1.1 r4.2) (some (ag,r4.2))) λr5=>aj (aU (aZ r4.1 true) (aJ r5.1 r5.2) (some (ag,r5.2))) λr6=>aj (aU (aZ r4.1 true) (aw Tryz.prog .leq 3 false true r6.1 (.af 4) r6.2) (some (ag,r6.2))) λr7=>aj (bt r4.1 r7.1 (.bool false) r7.2) λr8=>aD Tryz.prog [(r8.1,none)] r8.2
def Fm{x0:ae}{W:AW}{r:ae×AW}(h:DJ bl x0 W=some r):bl (.func (.func 58) #[] #[]) [x0] W=some (gc W r):=bO (nt:=11) (n:=1) (by kernel_rfl) (by kernel_rfl) rfl (aH (by kernel_rfl) h)
def tQ(call:Eng.Callee)(x0 x1:ae)(W:AW):Option (ae×AW):=aj (cC x0 W) λr1=>aj (bc Tryz.prog 88 r1.2) λr2=>aj (aR 0 r1.1 r2.2) λr3=>aj (aR 4 r3.1 r3.2) λr4=>aj (aJ r4.1 r4.2) λr5=>aj (iY 31 r5.1 x1 r5.2) λr6=>aj (bA 31 r6.1 r6.2) λr7=>aj (bc Tryz.prog 98 r7.2) λr8=>aj (bU 31 r8.1 r7.1 r8.2) λr9=>aj (aR 2 r8.1 r9.2) λbK=>aj (aJ bK.1 bK.2) λbN=>aj (aR 6 r1.1 bN.2) λcj=>aj (EI 65 3 cj.1 bN.1 cj.2) λcA=>aj (aR 0 cA.1 cA.2) λcy=>aj (aJ cy.1 cy.2) λbX=>aj (aw Tryz.prog .geq 3 false true bX.1 (.af 0) bX.2) λcg=>bf cg.1 (aj (bA 204 r1.1 cg.2) λcu=>aj (bU 204 r2.1 cu.1 cu.2) λcE=>aD Tryz.prog [(r2.1,some 88),((.af 8),none)] cE.2) (aj (aR 5 r1.1 cg.2) λbY=>aj (aJ bY.1 bY.2) λcn=>aj (aG Tryz.prog .len #[33] 3 #[false] [cn.1] cn.2) λcH=>aj (aw Tryz.prog .eql 3 false true cH.1 (.af 200) cH.2) λcK=>bf cK.1 (aj (bA 204 r1.1 cK.2) λcP=>aj (bU 204 r2.1 cP.1 cP.2) λcZ=>aD Tryz.prog [(r2.1,some 88),((.af 3),none)] cZ.2) (aj (aR 3 r8.1 cK.2) λcW=>aj (aJ cW.1 cW.2) λdA=>aj (aR 5 r1.1 dA.2) λdx=>aj (aJ dx.1 dx.2) λdI=>aj (aG Tryz.prog .len #[33] 3 #[false] [dI.1] dI.2) λdr=>aj (aw Tryz.prog .add 3 false true dr.1 (.af 1) dr.2) λeE=>aj (aw Tryz.prog .neq 3 false false dA.1 eE.1 eE.2) λeh=>bf eh.1 (aj (bA 204 r1.1 eh.2) λej=>aj (bU 204 r2.1 ej.1 ej.2) λdJ=>aD Tryz.prog [(r2.1,some 88),((.af 6),none)] dJ.2) (aj (aR 5 r8.1 eh.2) λdR=>aj (bA 12 dR.1 dR.2) λeN=>aj (call (cN 79) [eN.1] eN.2) λeC=>aj (aw Tryz.prog .neq 30 false true eC.1 (.af 0) eC.2) λew=>bf ew.1 (aj (bA 204 r1.1 ew.2) λgT=>aj (bU 204 r2.1 gT.1 gT.2) λgQ=>aD Tryz.prog [(r2.1,some 88),(eC.1,none)] gQ.2) (aj (aR 2 r8.1 ew.2) λgt=>aj (aJ gt.1 gt.2) λii=>aj (aR 5 r1.1 ii.2) λgX=>aj (aJ gX.1 gX.2) λiq=>aj (aG Tryz.prog .len #[33] 3 #[false] [iq.1] iq.2) λik=>aj (bH Tryz.prog 85 [(0,ik.1)] ik.2) λgR=>aj (aR 6 r1.1 gR.2) λkN=>aj (EI 65 3 kN.1 ii.1 kN.2) λnB=>aj (bU 3 nB.1 gR.1 nB.2) λod=>aj (aC Tryz.prog 33 0 [] od.2) λpv=>aj (aR 5 r1.1 pv.2) λpw=>aj (aJ pw.1 pw.2) λpU=>aj (aR 3 r8.1 pU.2) λqt=>aj (aJ qt.1 qt.2) λtP=>aj (aR 2 r8.1 tP.2) λqT=>aj (aJ qT.1 qT.2) λyD=>aj (aR 5 r8.1 yD.2) λtR=>aj (bA 12 tR.1 tR.2) λyh=>aj (bH Tryz.prog 45 [(0,tP.1),(1,yD.1),(2,yh.1),(4,x1),(5,(.af (-1))),(6,(.af (-1)))] yh.2) λxH=>aj (aC Tryz.prog 33 1 [(0,xH.1)] xH.2) λt6=>aj (aO Tryz.prog t6.2 #[33,33] pv.1 pU.1) λwN=>aU (rP true (bA 12 tR.1 wN.2) yh.1&&(rP true (aJ qT.1 wN.2) yD.1&&(rP true (aJ qt.1 wN.2) tP.1&&true))) (aj (aO Tryz.prog wN.2 #[33,33] wN.1 t6.1) λuO=>aj (aR 5 r1.1 uO.2) λAB=>aj (bU 1 AB.1 uO.1 AB.2) λzm=>aj (bA 204 r1.1 zm.2) λt8=>aj (bU 204 r2.1 t8.1 t8.2) λza=>aD Tryz.prog [(r2.1,some 88),((.af 0),none)] za.2) none))))
def wV{x0 x1:ae}{W:AW}{r:ae×AW}(h:tQ bl x0 x1 W=some r):bl (.func (.func 59) #[] #[]) [x0,x1] W=some (gc W r):=bO (nt:=66) (n:=2) (by kernel_rfl) (by kernel_rfl) rfl (aH (by kernel_rfl) h)
def tF(call:Eng.Callee)(x0 x1:ae)(W:AW):Option (ae×AW):=aj (cC x0 W) λr1=>aj (bc Tryz.prog 88 r1.2) λr2=>aj (aR 0 r1.1 r2.2) λr3=>aj (aR 4 r3.1 r3.2) λr4=>aj (aJ r4.1 r4.2) λr5=>aj (iY 31 r5.1 x1 r5.2) λr6=>aj (bA 31 r6.1 r6.2) λr7=>aj (bc Tryz.prog 98 r7.2) λr8=>aj (bU 31 r8.1 r7.1 r8.2) λr9=>aj (aR 2 r8.1 r9.2) λbK=>aj (aJ bK.1 bK.2) λbN=>aj (aR 6 r1.1 bN.2) λcj=>aj (EI 65 3 cj.1 bN.1 cj.2) λcA=>aj (bA 3 cA.1 cA.2) λcy=>aj (bc Tryz.prog 85 cy.2) λbX=>aj (bU 3 bX.1 cy.1 bX.2) λcg=>aj (aR 5 r1.1 cg.2) λcu=>aj (aJ cu.1 cu.2) λcE=>aj (aR 0 bX.1 cE.2) λbY=>aj (aJ bY.1 bY.2) λcn=>aj (iY 26 cE.1 cn.1 cn.2) λcH=>aj (bA 26 cH.1 cH.2) λcK=>aj (bc Tryz.prog 45 cK.2) λcP=>aj (bU 26 cP.1 cK.1 cP.2) λcZ=>aj (aR 2 cP.1 cZ.2) λcW=>aj (aR 7 cW.1 cW.2) λdA=>aj (bA 4 dA.1 dA.2) λdx=>aj (bc Tryz.prog 39 dx.2) λdI=>aj (bU 4 dI.1 dx.1 dI.2) λdr=>aj (aR 2 cP.1 dr.2) λeE=>aj (aR 0 eE.1 eE.2) λeh=>aj (aJ eh.1 eh.2) λej=>aj (aw Tryz.prog .neq 3 false true ej.1 (.af 9) ej.2) λdJ=>aj (aU (aZ dJ.1 false) (aR 24 cP.1 dJ.2) (some (ag,dJ.2))) λdR=>aj (aU (aZ dJ.1 false) (aJ dR.1 dR.2) (some (ag,dR.2))) λeN=>aj (aU (aZ dJ.1 false) (aw Tryz.prog .lss 3 false true eN.1 (.af 0) eN.2) (some (ag,eN.2))) λeC=>aj (bt dJ.1 (.bool true) eC.1 eC.2) λew=>aj (aU (aZ ew.1 false) (aR 14 cP.1 ew.2) (some (ag,ew.2))) λgT=>aj (aU (aZ ew.1 false) (aR 0 gT.1 gT.2) (some (ag,gT.2))) λgQ=>aj (aU (aZ ew.1 false) (aJ gQ.1 gQ.2) (some (ag,gQ.2))) λgt=>aj (aU (aZ ew.1 false) (aw Tryz.prog .neq 30 false true gt.1 (.af 0) gt.2) (some (ag,gt.2))) λii=>aj (bt ew.1 (.bool true) ii.1 ii.2) λgX=>aj (aU (aZ gX.1 false) (aR 2 bX.1 gX.2) (some (ag,gX.2))) λiq=>aj (aU (aZ gX.1 false) (aJ iq.1 iq.2) (some (ag,iq.2))) λik=>aj (bt gX.1 (.bool true) ik.1 ik.2) λgR=>aj (aU (aZ gR.1 false) (aR 26 r8.1 gR.2) (some (ag,gR.2))) λkN=>aj (aU (aZ gR.1 false) (aR 0 kN.1 kN.2) (some (ag,kN.2))) λnB=>aj (aU (aZ gR.1 false) (aJ nB.1 nB.2) (some (ag,nB.2))) λod=>aj (aU (aZ gR.1 false) (aR 0 dI.1 od.2) (some (ag,od.2))) λpv=>aj (aU (aZ gR.1 false) (aJ pv.1 pv.2) (some (ag,pv.2))) λpw=>aj (aU (aZ gR.1 false) (aw Tryz.prog .neq 36 false false od.1 pw.1 pw.2) (some (ag,pw.2))) λpU=>aj (bt gR.1 (.bool true) pU.1 pU.2) λqt=>aj (aU (aZ qt.1 false) (aR 26 r8.1 qt.2) (some (ag,qt.2))) λtP=>aj (aU (aZ qt.1 false) (aR 1 tP.1 tP.2) (some (ag,tP.2))) λqT=>aj (aU (aZ qt.1 false) (aJ qT.1 qT.2) (some (ag,qT.2))) λyD=>aj (aU (aZ qt.1 false) (aR 2 dI.1 yD.2) (some (ag,yD.2))) λtR=>aj (aU (aZ qt.1 false) (aJ tR.1 tR.2) (some (ag,tR.2))) λyh=>aj (aU (aZ qt.1 false) (aw Tryz.prog .neq 37 false false yD.1 yh.1 yh.2) (some (ag,yh.2))) λxH=>aj (bt qt.1 (.bool true) xH.1 xH.2) λt6=>aj (aU (aZ t6.1 false) (aR 26 r8.1 t6.2) (some (ag,t6.2))) λwN=>aj (aU (aZ t6.1 false) (aR 2 wN.1 wN.2) (some (ag,wN.2))) λuO=>aj (aU (aZ t6.1 false) (aJ uO.1 uO.2) (some (ag,uO.2))) λAB=>aj (aU (aZ t6.1 false) (aR 3 dI.1 AB.2) (some (ag,AB.2))) λzm=>aj (aU (aZ t6.1 false) (aJ zm.1 zm.2) (some (ag,zm.2))) λt8=>aj (aU (aZ t6.1 false) (aw Tryz.prog .neq 37 false false AB.1 t8.1 t8.2) (some (ag,t8.2))) λza=>aj (bt t6.1 (.bool true) za.1 za.2) λuL=>aj (aU (aZ uL.1 false) (aR 26 r8.1 uL.2) (some (ag,uL.2))) λBw=>aj (aU (aZ uL.1 false) (aR 3 Bw.1 Bw.2) (some (ag,Bw.2))) λuC=>aj (aU (aZ uL.1 false) (aJ uC.1 uC.2) (some (ag,uC.2))) λyj=>aj (aU (aZ uL.1 false) (aw Tryz.prog .lss 3 false true yj.1 (.af 0) yj.2) (some (ag,yj.2))) λw7=>aj (bt uL.1 (.bool true) w7.1 w7.2) λoe=>aj (aU (aZ oe.1 false) (aR 26 r8.1 oe.2) (some (ag,oe.2))) λuI=>aj (aU (aZ oe.1 false) (aR 3 uI.1 uI.2) (some (ag,uI.2))) λBl=>aj (aU (aZ oe.1 false) (aJ Bl.1 Bl.2) (some (ag,Bl.2))) λwL=>aj (aU (aZ oe.1 false) (aw Tryz.prog .geq 3 false true wL.1 (.af 8) wL.2) (some (ag,wL.2))) λCv=>aj (bt oe.1 (.bool true) Cv.1 Cv.2) λuW=>aj (aU (aZ uW.1 false) (aR 26 r8.1 uW.2) (some (ag,uW.2))) λCt=>aj (aU (aZ uW.1 false) (aR 4 Ct.1 Ct.2) (some (ag,Ct.2))) λBE=>aj (aU (aZ uW.1 false) (aJ BE.1 BE.2) (some (ag,BE.2))) λC7=>aj (aU (aZ uW.1 false) (aw Tryz.prog .lss 2 false true C7.1 (.af 0) C7.2) (some (ag,C7.2))) λFA=>aj (bt uW.1 (.bool true) FA.1 FA.2) λFc=>bf Fc.1 (aj (bA 204 r1.1 Fc.2) λDh=>aj (bU 204 r2.1 Dh.1 Dh.2) λFx=>aD Tryz.prog [(r2.1,some 88),((.af 6),none)] Fx.2) (aj (aR 2 r8.1 Fc.2) λFU=>aj (aJ FU.1 FU.2) λCA=>aj (aR 6 r1.1 CA.2) λD0=>aj (EI 65 3 D0.1 CA.1 D0.2) λKa=>aj (aR 2 Ka.1 Ka.2) λFz=>aj (bU 1 Fz.1 (.bool true) Fz.2) λNd=>aj (bA 204 r1.1 Nd.2) λKL=>aj (bU 204 r2.1 KL.1 KL.2) λOM=>aD Tryz.prog [(r2.1,some 88),((.af 0),none)] OM.2)
def xu{x0 x1:ae}{W:AW}{r:ae×AW}(h:tF bl x0 x1 W=some r):bl (.func (.func 61) #[] #[]) [x0,x1] W=some (gc W r):=bO (nt:=98) (n:=2) (by kernel_rfl) (by kernel_rfl) rfl (aH (by kernel_rfl) h)
def iA(call:Eng.Callee)(x0 x1 x2:ae)(W:AW):Option (ae×AW):=aj (cC x1 W) λr1=>aj (aW x0 r1.2) λr2=>aj (aR 6 r2.1 r2.2) λr3=>aj (aJ r3.1 r3.2) λr4=>aj (aR 2 r1.1 r4.2) λr5=>aj (aJ r5.1 r5.2) λr6=>aj (gS Tryz.prog 91 r4.1 r6.1 false r6.2) λr7=>aj (aW x0 r7.2) λr8=>aj (aR 0 r8.1 r8.2) λr9=>aj (aR 0 r9.1 r9.2) λbK=>aj (bA 4 bK.1 bK.2) λbN=>aj (aW x0 bN.2) λcj=>aj (aR 5 cj.1 cj.2) λcA=>aj (aJ cA.1 cA.2) λcy=>aj (aW r7.1 cy.2) λbX=>aj (aR 0 bX.1 bX.2) λcg=>aj (aJ cg.1 cg.2) λcu=>aj (iY 26 cy.1 cu.1 cu.2) λcE=>aj (aR 2 cE.1 cE.2) λbY=>aj (bA 12 bY.1 bY.2) λcn=>aj (aW r7.1 cn.2) λcH=>aj (aR 1 cH.1 cH.2) λcK=>aj (aJ cK.1 cK.2) λcP=>aj (bc Tryz.prog 135 cP.2) λcZ=>aj (call (cN 100) [bN.1,cn.1,cP.1] cZ.2) λcW=>aj (au cW.1 0 cW.2) λdA=>aj (au cW.1 1 dA.2) λdx=>aj (bU 2 cZ.1 dA.1 dx.2) λdI=>aj (aw Tryz.prog .neq 30 false true dx.1 (.af 0) dI.2) λdr=>aj (aU (aZ dr.1 false) (bA 2 cZ.1 dr.2) (some (ag,dr.2))) λeE=>aj (aU (aZ dr.1 false) (j0 x2 eE.2) (some (ag,eE.2))) λeh=>aj (aU (aZ dr.1 false) (aR 4 r1.1 eh.2) (some (ag,eh.2))) λej=>aj (aU (aZ dr.1 false) (aJ ej.1 ej.2) (some (ag,ej.2))) λdJ=>aj (aU (aZ dr.1 false) (bH Tryz.prog 135 [(0,eh.1),(1,dJ.1)] dJ.2) (some (ag,dJ.2))) λdR=>aj (aU (aZ dr.1 false) (aw Tryz.prog .neq 135 false false eE.1 dR.1 dR.2) (some (ag,dR.2))) λeN=>aj (bt dr.1 (.bool true) eN.1 eN.2) λeC=>bf eC.1 (aD Tryz.prog [((.af 6),none)] eC.2) (aj (aW r7.1 eC.2) λew=>aj (aR 1 ew.1 ew.2) λgT=>aj (aJ gT.1 gT.2) λgQ=>aj (aw Tryz.prog .add 3 false true gQ.1 (.af 1) gQ.2) λgt=>aj (aW r7.1 gt.2) λii=>aj (aR 1 ii.1 ii.2) λgX=>aj (bU 1 gX.1 gt.1 gX.2) λiq=>aD Tryz.prog [((.af 0),none)] iq.2)
def pX{x0 x1 x2:ae}{W:AW}{r:ae×AW}(h:iA bl x0 x1 x2 W=some r):bl (.func (.func 76) #[] #[]) [x0,x1,x2] W=some (gc W r):=bO (nt:=58) (n:=3) (by kernel_rfl) (by kernel_rfl) rfl (aH (by kernel_rfl) h)
def wu1:aZ ag false=false:=aH rfl rfl
def wu2:aZ ag true=false:=aH rfl rfl
def pEq(b:Nat)(c d:Bool)(W:AW):aw Tryz.prog .eql 123 c d (cp b) (.pointer none) W=some (.bool false,W):=aH (by kernel_rfl) rfl
def aiZ(c d:Bool)(W:AW):aw Tryz.prog .eql 123 c d (.pointer none) (.pointer none) W=some (.bool true,W):=aH (by kernel_rfl) rfl
def pNe(b:Nat)(c d:Bool)(W:AW):aw Tryz.prog .neq 123 c d (cp b) (.pointer none) W=some (.bool true,W):=aH (by kernel_rfl) rfl
def Ln(c d:Bool)(W:AW):aw Tryz.prog .neq 123 c d (.pointer none) (.pointer none) W=some (.bool false,W):=aH (by kernel_rfl) rfl
def Zr:Tryz.prog.underlying 91=some (.map 3 123):=by kernel_rfl
def Zu:Tryz.prog.underlying 92=some (.map 3 3):=by kernel_rfl
def abu:jK Tryz.prog 123=some (.pointer none):=by kernel_rfl
def tz3:jK Tryz.prog 3=some (.af 0):=by kernel_rfl
abbrev Cr(v:cT)(sv ev cv:ae)(mo ml:Nat)(tn st at_:Int):List ae:=[.af v.sh,.af v.sU,.af v.sF,sv,ev,cv,.map (some mo),.map (some ml),.af tn,.af st,.af at_]
abbrev fQ:List ae:=[.nilFunc,.func (.func 48) #[] #[],.func (.func 49) #[] #[],.func (.func 50) #[] #[],.func (.func 51) #[] #[],.func (.func 52) #[] #[],.func (.func 53) #[] #[]]
structure gL (V U:AW) (v:cT) (sv ev:ae) (s:RS) (at_:Int) (cv:ae) (bo:Option Nat) (pb:Int->Nat):Prop where
 le:Le V U
 nx:V.next+5<=U.next
 w:U.get (V.next+2)=some (.cells (Cr v sv ev cv V.next (V.next+1) s.tn s.st at_))
 r:U.get (V.next+4)=some (.cells fQ)
 c:uy U 26 fG cv s.cl bo
 o:∃n,o8 U V.next (λk=>(s.of k).map λ_=>cp (pb k)) n
 l:∃n,o8 U (V.next+1) (λk=>(s.lk k).map (Value.int .i64)) n
 p:∀k o,s.of k=some o->V.next+5<=pb k/\pb k<U.next/\bo≠some (pb k)/\U.get (pb k)=some (.cells [.af (o.c:Int),.af (o.s:Int),.bool o.e])
 b:∀B,bo=some B->V.next+5<=B
 inj:∀k k' o o',s.of k=some o->s.of k'=some o'->pb k=pb k'->k=k'
section
variable {V U U':AW} {v:cT} {sv ev cv:ae} {s:RS} {at_:Int} {bo:Option Nat} {pb:Int->Nat}
def gL.mono(h:gL V U v sv ev s at_ cv bo pb)(bi:Le U U'):gL V U' v sv ev s at_ cv bo pb:=by
 have hn:=h.nx;have C5:=bi.next;obtain⟨n,ho⟩:=h.o;obtain⟨m,hl⟩:=h.l
 exact⟨h.le.trans bi,by omega,(bi.get _ (by omega)).trans h.w,(bi.get _ (by omega)).trans h.r,h.c.dK C5 λB hB=>bi.get B (h.c.lt hB),⟨n,ho.dK (bi.get _ (by omega))⟩,⟨m,hl.dK (bi.get _ (by omega))⟩,
  λk o hk=>let⟨a,b,c,d⟩:=h.p k o hk;⟨a,by omega,c,(bi.get _ b).trans d⟩,h.b,h.inj⟩
def gL.put(h:gL V U v sv ev s at_ cv bo pb)(tn st a:Int):gL V (U.put (V.next+2) (.cells (Cr v sv ev cv V.next (V.next+1) tn st a))) v sv ev {s with tn:=tn,st:=st} a cv bo pb:=by have hn:=h.nx;obtain⟨n,ho⟩:=h.o;obtain⟨m,hl⟩:=h.l;refine⟨h.le.put (by omega) _,by rw[AW.cG];omega,AW.bE _ _ _,(AW.aE _ _ (by omega)).trans h.r,h.c.dK (aS _) λB hB=>AW.aE _ _ (by have:=h.b B hB;omega),⟨n,ho.dK (AW.aE _ _ (by omega))⟩,⟨m,hl.dK (AW.aE _ _ (by omega))⟩,λk o hk=>?_,h.b,h.inj⟩;obtain⟨a,b,c,d⟩:=h.p k o hk;exact⟨a,b,c,(AW.aE _ _ (by omega)).trans d⟩
def gL.ld(h:gL V U v sv ev s at_ cv bo pb):aJ (.pointer (some ⟨V.next+2,5,none⟩)) U=some (cv,U)/\aJ (.pointer (some ⟨V.next+2,6,none⟩)) U=some (.map (some V.next),U)/\aJ (.pointer (some ⟨V.next+2,7,none⟩)) U=some (.map (some (V.next+1)),U)/\aJ (.pointer (some ⟨V.next+2,8,none⟩)) U=some (.af s.tn,U)/\aJ (.pointer (some ⟨V.next+2,9,none⟩)) U=some (.af s.st,U)/\aJ (.pointer (some ⟨V.next+2,10,none⟩)) U=some (.af at_,U)/\bA 4 (cp (V.next+2)) U=some (gW v sv,U):=
 ⟨gH h.w rfl,gH h.w rfl,gH h.w rfl,gH h.w rfl,gH h.w rfl,gH h.w rfl,fy (bm h.w) rfl⟩
def gL.look(h:gL V U v sv ev s at_ cv bo pb)(k:Int):gS Tryz.prog 91 (.map (some V.next)) (.af k) false U=some (((s.of k).map λ_=>cp (pb k)).getD (.pointer none),U):=by obtain⟨n,ho⟩:=h.o;exact Pz ho Zr Tryz.underlying3 abu k
def gL.adD(h:gL V U v sv ev s at_ cv bo pb)(k:Int):gS Tryz.prog 92 (.map (some (V.next+1))) (.af k) true U=some (.tuple #[((s.lk k).map (Value.int .i64)).getD (.af 0),.bool (s.lk k).isSome],U):=by obtain⟨n,hl⟩:=h.l;have:=NK hl Zu Tryz.underlying3 tz3 k;rw[this];cases s.lk k<;>rfl
def gL.call(h:gL V U v sv ev s at_ cv bo pb){c:Nat}(hc:c<s.cl.length):
 ∃B,bo=some B/\B<U.next/\U.get B=some (.cells (s.cl.flatMap fG))/\(∀W' kk,iY 26 cv (.int kk (c:Int)) W'=some (.pointer (some ⟨B,c*26,none⟩),W')):=by
 rcases h.c with⟨e,-⟩|⟨h0,B,h1,h2,h3,h4⟩
 ·rw[e]at hc;cases hc
 ·exact⟨B,h1,h2,h4,λW' kk=>by rw[h3,t7 (by omega),aK]⟩
end
def AM{m:List oK}{i:Nat}(hi:i<=m.length):((m.take i).flatMap fG).length=i*26:=by rw[cw cQ,fT,nO hi]
def wv{m:List oK}{i:Nat}(hi:i<m.length)(y:oK):(m.set i y).flatMap fG=(m.take i).flatMap fG++(fG y++(m.drop (i+1)).flatMap fG):=by rw[List.set_eq_take_append_cons_drop,ax hi,jO,hO]
def pa{m:List oK}{i:Nat}(hi:i<m.length):m.flatMap fG=(m.take i).flatMap fG++(fG m[i]++(m.drop (i+1)).flatMap fG):=by have h:=wv hi m[i];rwa [List.set_getElem_self]at h
def nJ{s:RS}{c:Nat}(hc:c<s.cl.length):bh s c=s.cl[c]:=by simp[bh,List.getD,hc]
def ZE{s:RS}{U:AW}{B c:Nat}(hB:U.get B=some (.cells (s.cl.flatMap fG)))(hc:c<s.cl.length)(j:Nat)(hj:j<26):aJ (.pointer (some ⟨B,c*26+j,none⟩)) U=((fG (bh s c))[j]?).bind λx=>some (x,U):=by
 have e:(s.cl.flatMap fG)[c*26+j]? =(fG (bh s c))[j]? :=by rw[nJ hc,pa hc,<-AM (m:=s.cl) (i:=c) (by omega),ig (by omega),wG,uo (by rw[cQ];omega)]
 have gY:j<(fG (bh s c)).length:=by rw[cQ];omega
 rw[dm gY]at e|-;exact gH hB e
def oW{s:RS}{U:AW}{B c:Nat}(hB:U.get B=some (.cells (s.cl.flatMap fG)))(hc:c<s.cl.length):
 aJ (.pointer (some ⟨B,c*26,none⟩)) U=some (.af (bh s c).id,U)/\bA 12 (.pointer (some ⟨B,c*26+2,none⟩)) U=some (yb (bh s c).op,U)/\bA 26 (.pointer (some ⟨B,c*26,none⟩)) U=some (OZ (bh s c),U):=by
 have e0:((s.cl.flatMap fG).drop (c*26)).take 26=fG (bh s c):=by rw[nJ hc,pa hc,<-AM (m:=s.cl) (i:=c) (by omega),vn,<-cQ s.cl[c],ws]
 refine⟨ZE hB hc 0 (by omega),?_,?_⟩
 ·have e2:((s.cl.flatMap fG).drop (c*26+2)).take 12=((fG (bh s c)).drop 2).take 12:=by rw[<-e0,List.drop_take,sC,uS];rfl
  have:=fy (n:=12) (o:=c*26+2) (bm hB) (by rw[e2];rfl);rw[e2]at this;exact this
 ·have:=fy (n:=26) (o:=c*26) (bm hB) (by rw[e0];rfl);rw[e0]at this;exact this
def eF(s:RS)(x:eg):Int:=if x.k=1 then 0 else match s.of x.wk with
 |none=>4
 |some o=>if(bh s o.c).id≠x.id then 4 else 0
open Classical in
def cL(v:cT)(s:RS)(x:eg):Int:=
 if x.k=1 then
  (if(s.of x.wk).isSome=true then 8 else if s.cl.length=200 then 3 else if x.id≠(s.cl.length:Int)+1 then 6 else Wx x.op)
 else match s.of x.wk with
  |none=>4
  |some o=>
   if x.k=5 then(if(o.s:Int)<(lF v (bh s o.c).op).1 then 6 else 0)else
   if x.k=6 then(if AE (bh s o.c) o x.en then 0 else 6)else
   if iN v (bh s o.c).op o.s≠((jI x.k,x.lk),0)then 6 else
   if x.k=2/\(s.lk x.lk).isSome=true then 20 else 0
def Kw(v:cT)(s:RS)(x:eg):th v s x=if dM s x≠0 then dM s x else if eF s x≠0 then eF s x else cL v s x:=by
 unfold th eF cL;by_cases c1:x.k=1
 ·simp only[ax c1,ne_eq,sW,bG]
 ·simp only[ay c1];cases s.of x.wk with
  |none=>simp
  |some o=>
   simp only;by_cases c2:(bh s o.c).id≠x.id
   ·simp[ax c2]
   ·simp only[ay c2,ne_eq,sW,bG]
def vw(s:RS)(x:eg):RS:={s with tn:=x.tn,st:=if oE x=true then x.tn else s.st}
section
variable {V U:AW} {v:cT} {sv ev cv:ae} {s:RS} {at_:Int} {bo:Option Nat} {pb:Int->Nat} {x:eg} {b b2:Nat}
def abM(h:gL V U v sv ev s at_ cv bo pb)(hI:na s)(hb:U.get b=some (.cells (eY x))):fw bl (cp (V.next+2)) (cp b) U=some (.af (eF s x),U):=by
 unfold fw;obtain⟨l5,l6,l7,l8,l9,VD,-⟩:=h.ld;have lk:=h.look x.wk;have lx:=qX hb;have lw:=eK hb;have li:=fa hb;unfold eF;by_cases c1:x.k=1
 ·have d1:=aY c1;simp only[SX,aX,aK,l6,lw,lk,lx,d1,wu1,ax c1]
 ·have d1:=bu c1;cases ho:s.of x.wk with
  |none=>rw[ho]at lk;simp only[Option.map_none,Option.getD_none]at lk;simp only[SX,aX,aK,l6,lw,lk,lx,d1,aiZ,ay c1]
  |some o=>
   rw[ho]at lk;simp only[cD,pB]at lk;obtain⟨p1,p2,p3,p4⟩:=h.p _ _ ho;have lm:=hI.of _ _ ho;obtain⟨B,-,-,hB,S3⟩:=h.call lm;obtain⟨f1,-,-⟩:=oW hB lm;have lp:aJ (cp (pb x.wk)) U=some (.af (o.c:Int),U):=gH p4 rfl;by_cases c2:(bh s o.c).id=x.id
   ·have d2:=aY c2;simp only[SX,aX,aK,l6,l5,lw,lk,lx,li,d1,pEq,lp,S3,ce,f1,ay c1,ne_eq,c2,sW,bG]
   ·have d2:=bu c2;simp only[SX,aX,aK,l6,l5,lw,lk,lx,li,d1,pEq,lp,S3,ce,f1,ay c1,ne_eq,c2,not_false_eq_true,bk]
open Classical in
def ahW(h:gL V U v sv ev s at_ cv bo pb)(hI:na s)(hb:U.get b=some (.cells (eY x)))(iu:U.get b2=some (.cells (eY (gB x))))(hbV:V.next+5<=b)(hk:1<=x.k/\x.k<=6):
 ∃U',cF bl (cp (V.next+2)) (cp b) (cp b2) (.bool (oE x)) U=some (.af (if dM s x≠0 then dM s x else eF s x),U')/\U'.next=U.next/\(∀d,d≠V.next+2->U'.get d=U.get d)/\(dM s x≠0->U'=U)/\(dM s x=0->gL V U' v sv ev (vw s x) at_ cv bo pb):=by
 unfold cF;obtain⟨l5,l6,l7,l8,l9,VD,-⟩:=h.ld;have lx:=kQ hb;have lb:=kQ iu;have lt:=uf hb;have lw:=eK hb;have ne:=λU'=>aa9 x (gB x) false false U'
 have hE:=dM.eq_1 s x;rw[bZ]at hE;by_cases c1:x=gB x;case neg=>rw[ax c1]at hE;have d1:decide (x=gB x)=false:=bu c1;simp only[SX,lx,lb,ne,d1];exact⟨U,by rw[hE];rfl,rfl,λ_ _=>rfl,λ_=>rfl,λe=>by rw[hE]at e;exact absurd e (by decide)⟩
 rw[ay (by simpa using c1)]at hE;have d1:decide (x=gB x)=true:=aY c1;by_cases c2:x.tn<0\/1000000000<x.tn\/x.wk<1\/64<x.wk
 ·rw[ax c2]at hE;refine⟨U,?_,rfl,λ_ _=>rfl,λ_=>rfl,λe=>by rw[hE]at e;exact absurd e (by decide)⟩;rw[hE];by_cases e1:x.tn<0
  ·have q1:=aY e1;simp only[SX,lx,lb,ne,d1,aK,lt,q1];rfl
  have q1:=bu e1;by_cases e2:1000000000<x.tn
  ·have q2:=aY e2;simp only[SX,lx,lb,ne,d1,aK,lt,q1,q2];rfl
  have q2:=bu e2;by_cases e3:x.wk<1
  ·have q3:=aY e3;simp only[SX,lx,lb,ne,d1,aK,lt,lw,q1,q2,q3];rfl
  have q3:=bu e3;have q4:decide (64<x.wk)=true:=pd;simp only[SX,lx,lb,ne,d1,aK,lt,lw,q1,q2,q3,q4];rfl
 rw[ay c2]at hE;have q1:decide (x.tn<0)=false:=fF;have q2:decide (1000000000<x.tn)=false:=fF;have q3:decide (x.wk<1)=false:=fF;have q4:decide (64<x.wk)=false:=fF;by_cases c3:x.tn<s.tn
 ·have d3:=aY c3;rw[ax (.inl c3)]at hE;refine⟨U,?_,rfl,λ_ _=>rfl,λ_=>rfl,λe=>by rw[hE]at e;exact absurd e (by decide)⟩;rw[hE];simp only[SX,lx,lb,ne,d1,aK,lt,lw,q1,q2,q3,q4,aX,l8,d3,wu2];rfl
 have d3:=bu c3;have st8:bU 1 (.pointer (some ⟨V.next+2,8,none⟩)) (.af x.tn) U=some (ag,U.put (V.next+2) (.cells (Cr v sv ev cv V.next (V.next+1) x.tn s.st at_))):=by rw[qj,jg h.w];rfl
 have h1:=h.put x.tn s.st at_;have KZ:V.next+2≠b:=by omega
 have IE:(U.put (V.next+2) (.cells (Cr v sv ev cv V.next (V.next+1) x.tn s.st at_))).get b=some (.cells (eY x)):=(AW.aE _ _ KZ).trans hb;cases TA:oE x with
 |true=>
  by_cases c4:x.tn<=s.st
  ·have d4:=aY c4;rw[ax (.inr ⟨TA,c4⟩)]at hE;refine⟨U,?_,rfl,λ_ _=>rfl,λ_=>rfl,λe=>by rw[hE]at e;exact absurd e (by decide)⟩;rw[hE];simp only[SX,lx,lb,ne,d1,aK,lt,lw,q1,q2,q3,q4,aX,l8,l9,d3,d4];rfl
  have d4:=bu c4;rw[ay (by rintro(e|⟨-,e⟩);exact c3 e;exact c4 e)]at hE;have lt1:=uf IE;have st9:bU 1 (.pointer (some ⟨V.next+2,9,none⟩)) (.af x.tn) (U.put (V.next+2) (.cells (Cr v sv ev cv V.next (V.next+1) x.tn s.st at_)))=some (ag,(U.put (V.next+2) (.cells (Cr v sv ev cv V.next (V.next+1) x.tn s.st at_))).put (V.next+2) (.cells (Cr v sv ev cv V.next (V.next+1) x.tn x.tn at_))):=by rw[qj,jg h1.w];rfl
  have h2:=h1.put x.tn x.tn at_;have C1:=(AW.aE (W:=U.put (V.next+2) (.cells (Cr v sv ev cv V.next (V.next+1) x.tn s.st at_))) (o:=.cells (Cr v sv ev cv V.next (V.next+1) x.tn x.tn at_)) KZ).trans IE;have J:=abM h2 ⟨hI.ids,hI.of,hI.len,hI.wk,hI.steps⟩ C1;obtain⟨U2,ki⟩:∃U2,U2=(U.put (V.next+2) (.cells (Cr v sv ev cv V.next (V.next+1) x.tn s.st at_))).put (V.next+2) (.cells (Cr v sv ev cv V.next (V.next+1) x.tn x.tn at_)):=⟨_,rfl⟩;rw[<-ki]at J h2 st9;refine⟨U2,?_,by rw[ki];rfl,λd hd=>by rw[ki];(try rw[AW.aE _ _ (bL hd)]);exact AW.aE _ _ (bL hd),λe=>absurd hE e,λ_=>?_⟩
  ·rw[hE];simp only[SX,lx,lb,ne,d1,aK,lt,lw,q1,q2,q3,q4,aX,l8,l9,d3,d4,st8,lt1,st9];exact J
  ·have e:vw s x={{s with tn:=x.tn,st:=s.st}with tn:=x.tn,st:=x.tn}:=by unfold vw;rw[ax TA]
   rw[e];exact h2
 |false=>
  rw[ay (by rintro(e|⟨e,-⟩);exact c3 e;rw[TA]at e;cases e)]at hE;have J:=abM h1 ⟨hI.ids,hI.of,hI.len,hI.wk,hI.steps⟩ IE;obtain⟨U2,ki⟩:∃U2,U2=U.put (V.next+2) (.cells (Cr v sv ev cv V.next (V.next+1) x.tn s.st at_)):=⟨_,rfl⟩;rw[<-ki]at J h1 st8;refine⟨U2,?_,by rw[ki];rfl,λd hd=>by rw[ki];exact AW.aE _ _ (bL hd),λe=>absurd hE e,λ_=>?_⟩
  ·rw[hE];simp only[SX,lx,lb,ne,d1,aK,lt,lw,q1,q2,q3,q4,aX,l8,d3,st8];exact J
  ·have e:vw s x={s with tn:=x.tn,st:=s.st}:=by unfold vw;rw[ay (by rw[TA];decide)]
   rw[e];exact h1
end
def G4:∀{l l':List (Int×ae×Nat)},oa l=oa l'->l=l'
 |[],[],_=>rfl
 |[],_::_,h=>by simp[oa]at h
 |_::_,[],h=>by simp[oa]at h
 |(a,b,c)::l,(a',b',c')::l',h=>by simp only[oa,i6,List.cons.injEq]at h;have h2:l=l':=G4 h.2;have h1:=h.1;simp at h1;rw[h2,h1.1,h1.2.1,h1.2.2]
def Qf{W W':AW}{r n n':Nat}{m m':Int->Option ae}(h:o8 W r m n)(h':o8 W' r m' n')(hg:W'.get r=W.get r)(k:Int):m k=m' k:=by obtain⟨l,c,h1,-,-,h4⟩:=h;obtain⟨l',c',k1,-,-,k4⟩:=h';rw[hg,h1]at k1;injection k1 with k1;injection k1 with k1 k2;have:=G4 k1;subst this;rw[<-h4,<-k4]
def Tp{a b:Nat}(h:cp a=cp b):a=b:=by injection h with h;injection h with h;injection h
section
variable {V U U':AW} {v:cT} {sv ev cv nG:ae} {s s':RS} {at_ Z3:Int} {bo bo':Option Nat} {pb Ii:Int->Nat} {x:eg} {b b2:Nat}
def gL.back(h:gL V U v sv ev s at_ cv bo pb)(h':gL V U' v sv ev s' Z3 nG bo' Ii)(bi:Le U U'):gL V U v sv ev s' Z3 nG bo' Ii:=by
 have hn:=h.nx;have gw:=bi.get (V.next+2) (by omega);have hw:U.get (V.next+2)=some (.cells (Cr v sv ev nG V.next (V.next+1) s'.tn s'.st Z3)):=gw.symm.trans h'.w;have ecv:cv=nG:=by have e:=h.w.symm.trans hw;injection e with e;injection e with e;simp only[List.cons.injEq]at e;exact e.2.2.2.2.2.1
 subst ecv;obtain⟨n',gJ⟩:=h'.o;obtain⟨m',HK⟩:=h'.l;obtain⟨n,ho⟩:=h.o;have hpb:∀k o,s'.of k=some o->∃o0,s.of k=some o0/\pb k=Ii k:=λk o hk=>by
  have:=Qf ho gJ (bi.get _ (by omega)) k;simp only[hk,cD]at this;cases e:s.of k with
  |none=>rw[e]at this;cases this
  |some o0=>rw[e]at this;simp only[cD,fI]at this;exact⟨o0,rfl,Tp this⟩
 refine⟨h.le,hn,hw,h.r,?_,⟨n',gJ.dK (bi.get _ (by omega)).symm⟩,⟨m',HK.dK (bi.get _ (by omega)).symm⟩,λk o hk=>?_,h'.b,h'.inj⟩
 ·rcases h'.c with hc|⟨h0,B,h1,h2,h3,h4⟩
  ·exact .inl hc
  ·have hB:B<U.next:=by
    rcases h.c with⟨-,e,-⟩|⟨-,B0,-,k2,k3,-⟩
    ·rw[h3]at e;cases e
    ·rw[h3]at k3;injection k3 with k3;injection k3 with k3;injection k3 with k3;omega
   exact .inr ⟨h0,B,h1,hB,h3,(bi.get B hB).symm.trans h4⟩
 ·obtain⟨o0,e1,e2⟩:=hpb k o hk;obtain⟨a,b,c,d⟩:=h'.p k o hk;have gY:=(h.p k o0 e1).2.1;rw[e2]at gY;exact⟨a,gY,c,(bi.get _ gY).symm.trans d⟩
def yB(s:RS)(x:eg):Int:=if dM s x≠0 then dM s x else eF s x
def Ba(h:gL V U v sv ev s at_ cv bo pb)(hI:na s)(hU:Le U U')(hb:U'.get b=some (.cells (eY x)))(iu:U'.get b2=some (.cells (eY (gB x))))(hbU:U.next<=b)(hk:1<=x.k/\x.k<=6):
 Ok (cF bl (cp (V.next+2)) (cp b) (cp b2) (.bool (oE x)) U') λr=>r.1=.af (yB s x)/\Le V r.2/\U.next<=r.2.next/\(∀d,d<U.next->d≠V.next+2->r.2.get d=U.get d)/\(dM s x≠0->Le U r.2)/\(dM s x=0->gL V r.2 v sv ev (vw s x) at_ cv bo pb):=by
 have h1:=h.mono hU;obtain⟨U2,k1,k2,k5,k3,k4⟩:=ahW h1 hI hb iu (by have:=h.nx;omega) hk;rw[k1];refine am.2 ⟨rfl,?_,by have:=hU.next;show U.next<=U2.next;omega,λd h1 h2=>(k5 d h2).trans (hU.get d h1),λe=>by rw[k3 e];exact hU,k4⟩;by_cases c:dM s x=0
 ·exact(k4 c).le
 ·rw[k3 c];exact h1.le
def aiz{W:AW}{b:Nat}{e:eg}(h:W.get b=some (.cells (eY e)))(o:pV):bU 12 (.pointer (some ⟨b,5,none⟩)) (yb o) W=some (ag,W.put b (.cells (eY {e with op:=o}))):=by rw[rR (n:=12) (o:=5) (v:=yb o) h rfl (by show 5+12<=31;omega) rfl];rfl
def st9{W:AW}{b:Nat}{e:eg}(h:W.get b=some (.cells (eY e)))(r:HU):bU 9 (.pointer (some ⟨b,17,none⟩)) (GZ r) W=some (ag,W.put b (.cells (eY {e with rp:=r}))):=by rw[rR (n:=9) (o:=17) (v:=GZ r) h rfl (by show 17+9<=31;omega) rfl];rfl
def st5{W:AW}{b:Nat}{e:eg}(h:W.get b=some (.cells (eY e)))(g:IB):bU 5 (.pointer (some ⟨b,26,none⟩)) (Ql g) W=some (ag,W.put b (.cells (eY {e with en:=g}))):=by rw[rR (n:=5) (o:=26) (v:=Ql g) h rfl (by show 26+5<=31;omega) rfl];rfl
def aeu{W:AW}{b:Nat}{e:eg}(h:W.get b=some (.cells (eY e)))(n:Int):bU 1 (.pointer (some ⟨b,4,none⟩)) (.af n) W=some (ag,W.put b (.cells (eY {e with lk:=n}))):=by rw[qj,jg h];rfl
def Ir(h:gL V U v sv ev s at_ cv bo pb)(hI:na s)(x:eg):
 ∃U',bl (.func (.func 35) #[] #[]) [cp (V.next+2),BF x] U=some (.af (yB s x),U')/\Le V U'/\U.next<=U'.next/\(∀d,d<U.next->d≠V.next+2->U'.get d=U.get d)/\(dM s x=0->gL V U' v sv ev (vw s x) at_ cv bo pb):=by
 have kw:Ok (jD bl (cp (V.next+2)) (BF x) U) λr=>r.1=.af (yB s x)/\Le V r.2/\U.next<=r.2.next/\(∀d,d<U.next->d≠V.next+2->r.2.get d=U.get d)/\(dM s x≠0->Le U r.2)/\(dM s x=0->gL V r.2 v sv ev (vw s x) at_ cv bo pb):=by
  unfold jD;obtain⟨U1,j7⟩:∃U1,U1=U.add (.cells (eY x)):=⟨_,rfl⟩;have l1:Le U U1:=by rw[j7];exact(Le.refl _).add _
  have n1:U1.next=U.next+1:=by rw[j7];rfl
  have hb:U1.get U.next=some (.cells (eY x)):=by rw[j7];exact AW.a8 _ _
  have bx:=tA x U;rw[<-j7]at bx;have lk:=qX hb;have hE:=dM.eq_1 s x;have hC:yB s x=if dM s x≠0 then dM s x else eF s x:=rfl
  by_cases c1:x.k<1
  ·have d1:=aY c1;rw[ax (.inl c1)]at hE;simp only[SX,bx,lk,d1,am];refine⟨by rw[hC,hE];rfl,h.le.trans l1,by omega,λd hd _=>l1.get d hd,λ_=>l1,λe=>by rw[hE]at e;exact absurd e (by decide)⟩
  have d1:=bu c1;by_cases c2:6<x.k
  ·have d2:=aY c2;rw[ax (.inr c2)]at hE;simp only[SX,bx,lk,d1,d2,am];refine⟨by rw[hC,hE];rfl,h.le.trans l1,by omega,λd hd _=>l1.get d hd,λ_=>l1,λe=>by rw[hE]at e;exact absurd e (by decide)⟩
  have d2:=bu c2;have hk:1<=x.k/\x.k<=6:=by omega
  obtain⟨U2,ki⟩:∃U2,U2=U1.add (.cells (eY ⟨x.k,x.tn,x.wk,x.id,0,EP,uM,Cu⟩)):=⟨_,rfl⟩;have l2:Le U1 U2:=by rw[ki];exact(Le.refl _).add _
  have iu:U2.get U1.next=some (.cells (eY ⟨x.k,x.tn,x.wk,x.id,0,EP,uM,Cu⟩)):=by rw[ki];exact AW.a8 _ _
  have pt:=Pk ⟨x.k,x.tn,x.wk,x.id,0,EP,uM,Cu⟩ U1;rw[<-ki]at pt;have FC:U2.get U.next=some (.cells (eY x)):=(l2.get _ (by omega)).trans hb;have iP:=l1.trans l2;have Tu:∀c,Le U (U2.put U1.next c):=λc=>iP.put (by omega) _
  have C1:∀c,(U2.put U1.next c).get U.next=some (.cells (eY x)):=λc=>(AW.aE _ _ (by omega)).trans FC
  have lo:=rL FC;have lr:=wQ FC;have lg:=EF FC;have ll:=rA FC;have lk2:=qX FC;simp only[SX,bx,lk,d1,d2,aK,uf hb,eK hb,fa hb,Zz,XW,pt,lk2];by_cases e1:x.k=1
  ·have q:=aY e1;have eb:eY (gB x)=eY {(⟨x.k,x.tn,x.wk,x.id,0,EP,uM,Cu⟩:eg)with op:=x.op}:=by unfold gB;simp[e1]
   have eo:oE x=false:=by unfold oE;simp[e1]
   have G:=Ba (b2:=U1.next) h hI (Tu _) (C1 (.cells (eY {(⟨x.k,x.tn,x.wk,x.id,0,EP,uM,Cu⟩:eg)with op:=x.op}))) (by rw[eb];exact AW.bE _ _ _) (aS _) hk;rw[eo]at G;simp only[SX,q,lo,aiz iu];exact G
  have q1:=bu e1;by_cases e3:x.k=3
  ·have q:=aY e3;have eb:eY (gB x)=eY {(⟨x.k,x.tn,x.wk,x.id,0,EP,uM,Cu⟩:eg)with rp:=x.rp}:=by unfold gB;simp[e3]
   have eo:oE x=true:=by unfold oE;simp[e3]
   have G:=Ba (b2:=U1.next) h hI (Tu _) (C1 (.cells (eY {(⟨x.k,x.tn,x.wk,x.id,0,EP,uM,Cu⟩:eg)with rp:=x.rp}))) (by rw[eb];exact AW.bE _ _ _) (aS _) hk;rw[eo]at G;simp only[SX,q1,q,lr,st9 iu];exact G
  have q3:=bu e3;by_cases e24:x.k=2\/x.k=4
  ·have eb:eY (gB x)=eY {(⟨x.k,x.tn,x.wk,x.id,0,EP,uM,Cu⟩:eg)with lk:=x.lk}:=by unfold gB;rw[ax e24,ay e1,ay e3,bZ]
   have eo:oE x=true:=by unfold oE;rcases e24 with e|e<;>simp[e]
   have G:=Ba (b2:=U1.next) h hI (Tu _) (C1 (.cells (eY {(⟨x.k,x.tn,x.wk,x.id,0,EP,uM,Cu⟩:eg)with lk:=x.lk}))) (by rw[eb];exact AW.bE _ _ _) (aS _) hk;rw[eo]at G;rcases e24 with e|e
   ·have q:=aY e;simp only[SX,q1,q3,q];unfold eu;simp only[SX,aK,ll,aeu iu];exact G
   ·have q:=aY e;have q2:decide (x.k=2)=false:=fF;simp only[SX,q1,q3,q2,q];unfold eu;simp only[SX,aK,ll,aeu iu];exact G
  have q2:decide (x.k=2)=false:=fF;have q4:decide (x.k=4)=false:=fF;have eo:oE x=false:=by unfold oE;simp;omega
  simp only[SX,q1,q3,q2,q4];unfold eu;by_cases e6:x.k=6
  ·have q:=aY e6;have eb:eY (gB x)=eY {(⟨x.k,x.tn,x.wk,x.id,0,EP,uM,Cu⟩:eg)with en:=x.en}:=by unfold gB;simp[e6]
   have G:=Ba (b2:=U1.next) h hI (Tu _) (C1 (.cells (eY {(⟨x.k,x.tn,x.wk,x.id,0,EP,uM,Cu⟩:eg)with en:=x.en}))) (by rw[eb];exact AW.bE _ _ _) (aS _) hk;rw[eo]at G;simp only[SX,q,aK,lg,st5 iu];exact G
  ·have q:=bu e6;have e5:x.k=5:=by omega
   have eb:eY (gB x)=eY (⟨x.k,x.tn,x.wk,x.id,0,EP,uM,Cu⟩:eg):=by unfold gB;simp[e5]
   have G:=Ba (b2:=U1.next) h hI iP FC (by rw[eb];exact iu) (aS _) hk;rw[eo]at G;simp only[SX,q];exact G
 obtain⟨q,W',h1,rfl,h2,h5,h6,h3,h4⟩:=wb (Q:=λq W'=>q=.af (yB s x)/\Le V W'/\U.next<=W'.next/\(∀d,d<U.next->d≠V.next+2->W'.get d=U.get d)/\(dM s x≠0->Le U W')/\(dM s x=0->gL V W' v sv ev (vw s x) at_ cv bo pb)) kw rU
  (λq W' ⟨e,a,_,_,b,c⟩ bi hp=>⟨e,h.le,aS _,λ_ _ _=>rfl,λ_=>.refl _,λhe=>h.back (c he) bi⟩)
 exact⟨W',h1,h2,h5,h6,h4⟩
end
def RS.SU(s:RS)(w:Int)(o:dZ):RS:={s with of:=λk=>if k=w then some o else s.of k}
def me(o:dZ):dZ:=⟨o.c,o.s+1,o.e⟩
section
variable {Z V U U':AW} {v:cT} {sv ev cv:ae} {s:RS} {at_:Int} {bo:Option Nat} {pb:Int->Nat} {x:eg} {o:dZ}
def gL.abi(h:gL V U v sv ev s at_ cv bo pb){k:Int}(ho:s.of k=some o)(o':dZ):gL V (U.put (pb k) (.cells [.af (o'.c:Int),.af (o'.s:Int),.bool o'.e])) v sv ev (s.SU k o') at_ cv bo pb:=by
 have hn:=h.nx;obtain⟨n,hm⟩:=h.o;obtain⟨m,hl⟩:=h.l;obtain⟨p1,p2,p3,p4⟩:=h.p _ _ ho;have em:(λw=>((s.SU k o').of w).map λ_=>cp (pb w))=λw=>(s.of w).map λ_=>cp (pb w):=by
  funext w;unfold RS.SU;simp only;split
  ·rename_i e;subst e;rw[ho];rfl
  ·rfl
 refine⟨h.le.put (by omega) _,by rw[AW.cG];omega,(AW.aE _ _ (by omega)).trans h.w,(AW.aE _ _ (by omega)).trans h.r,h.c.dK (aS _) λB hB=>AW.aE _ _ (λe=>p3 (by rw[hB,e])),⟨n,by rw[em];exact hm.dK (AW.aE _ _ (by omega))⟩,⟨m,hl.dK (AW.aE _ _ (by omega))⟩,λw q hq=>?_,h.b,λw w' q q' hq hq'=>?_⟩
 ·unfold RS.SU at hq;simp only at hq;split at hq
  ·rename_i e;subst e;injection hq with hq;subst hq;exact⟨p1,p2,p3,AW.bE _ _ _⟩
  ·rename_i e;obtain⟨a,b,c,d⟩:=h.p _ _ hq;exact⟨a,b,c,(AW.aE _ _ (λe2=>e (h.inj _ _ _ _ hq ho e2.symm))).trans d⟩
 ·have key:∀{w q},(s.SU k o').of w=some q->∃q0,s.of w=some q0:=λ{w q} hq=>by
   unfold RS.SU at hq;simp only at hq;split at hq
   ·rename_i e;subst e;exact⟨_,ho⟩
   ·exact⟨_,hq⟩
  obtain⟨q0,h1⟩:=key hq;obtain⟨q1,h2⟩:=key hq';exact h.inj _ _ _ _ h1 h2
def abw(W:AW):bc Tryz.prog 135 W=some (cp W.next,W.add (.cells [.af 0,.af 0])):=aH (by kernel_rfl) rfl
open Classical in
def Kv(hG:GW V)(h:gL V U v sv ev s at_ cv bo pb)(hI:na s)(ho:s.of x.wk=some o)(hs:eX V sv v.az)(hv:v.az.length<1000)(kd:Int):
 ∃U',bl (.func (.func 76) #[] #[]) [cp (V.next+2),BF x,.af kd] U=some (.af (if iN v (bh s o.c).op o.s=((kd,x.lk),0)then 0 else 6),U')/\Le V U'/\U.next<=U'.next/\(∀d,d<U.next->d≠pb x.wk->U'.get d=U.get d)/\(iN v (bh s o.c).op o.s=((kd,x.lk),0)->gL V U' v sv ev (s.SU x.wk (me o)) at_ cv bo pb):=by
 have kw:Ok (iA bl (cp (V.next+2)) (BF x) (.af kd) U) λr=>r.1=.af (if iN v (bh s o.c).op o.s=((kd,x.lk),0)then 0 else 6)/\Le V r.2/\U.next<=r.2.next/\(∀d,d<U.next->d≠pb x.wk->r.2.get d=U.get d)/\(iN v (bh s o.c).op o.s=((kd,x.lk),0)->gL V r.2 v sv ev (s.SU x.wk (me o)) at_ cv bo pb):=by
  unfold iA;obtain⟨U1,j7⟩:∃U1,U1=U.add (.cells (eY x)):=⟨_,rfl⟩;have l1:Le U U1:=by rw[j7];exact(Le.refl _).add _
  have n1:U1.next=U.next+1:=by rw[j7];rfl
  have hb:U1.get U.next=some (.cells (eY x)):=by rw[j7];exact AW.a8 _ _
  have bx:=tA x U;rw[<-j7]at bx;have h1:=h.mono l1;obtain⟨l5,l6,l7,l8,l9,VD,lv⟩:=h1.ld;have lk:=h1.look x.wk;rw[ho]at lk;simp only[cD,pB]at lk;obtain⟨p1,p2,p3,p4⟩:=h1.p _ _ ho;have lm:=hI.of _ _ ho;have OS:=hI.steps _ _ ho;obtain⟨B,-,-,hB,S3⟩:=h1.call lm;obtain⟨-,f2,-⟩:=oW hB lm;have Z6:aJ (cp (pb x.wk)) U1=some (.af (o.c:Int),U1):=gH p4 rfl;have lp1:aJ (.pointer (some ⟨pb x.wk,1,none⟩)) U1=some (.af (o.s:Int),U1):=gH p4 rfl;obtain⟨U2,ki⟩:∃U2,U2=U1.add (.cells [.af 0,.af 0]):=⟨_,rfl⟩;have l2:Le U1 U2:=by rw[ki];exact(Le.refl _).add _
  have n2:U2.next=U1.next+1:=by rw[ki];rfl
  have al:=abw U1;rw[<-ki]at al;have iP:=l1.trans l2;have px:=GX (o:=(bh s o.c).op) (i0:=(o.s:Int)) (hs.mono (h.le.trans iP)) hv (hG.mono (h.le.trans iP));generalize hq:iN v (bh s o.c).op (o.s:Int)=q at px|-;obtain⟨⟨qa,qb⟩,qe⟩:=q;obtain⟨U3,CW⟩:∃U3,U3=U2.put U1.next (.cells [.af qa,.af qb]):=⟨_,rfl⟩;have s2:bU 2 (cp U1.next) (.agg #[.af qa,.af qb]) U2=some (ag,U3):=by rw[CW];have:=tJ (n:=2) (vs:=#[.af qa,.af qb]) (W:=U2) (b:=U1.next) (cs:=[.af 0,.af 0]) (by rw[ki];exact AW.a8 _ _) rfl rfl rfl;exact this
  have l3:Le U U3:=by rw[CW];exact iP.put (by omega) _
  have n3:U3.next=U2.next:=by rw[CW];rfl
  have h3:=h.mono l3;have adU:bA 2 (cp U1.next) U3=some (.agg #[.af qa,.af qb],U3):=by
   have g:U3.get U1.next=some (.cells [.af qa,.af qb]):=by rw[CW];exact AW.bE _ _ _
   exact fy (bm g) rfl
  have C1:U3.get U.next=some (.cells (eY x)):=by rw[CW];exact(AW.aE _ _ (by omega)).trans ((l2.get _ (by omega)).trans hb)
  have llk:=rA C1;have ne:=λW=>DO qa qb kd x.lk false false W
  simp only[SX,bx,aX,aK,l6,eK hb,lk,lv,l5,Z6,S3,f2,lp1,al,px,s2];by_cases c1:qe=0;case neg=>
   have d:=bu c1;have:¬(((qa,qb),qe):(Int×Int)×Int)=((kd,x.lk),0):=λe=>c1 (by injection e)
   simp only[SX,d,ay this,am];exact⟨aB,h3.le,by omega,λd hd _=>l3.get d hd,λe=>absurd e this⟩
  have d:=aY c1;subst c1;by_cases c2:qa=kd/\qb=x.lk;case neg=>
   have:¬(((qa,qb),(0:Int)):(Int×Int)×Int)=((kd,x.lk),0):=λe=>c2 (by simp only[nE]at e;exact e.1)
   have eb:(qa==kd&&qb==x.lk)=false:=by rw[Bool.eq_false_iff];intro e;simp at e;exact c2 e
   simp only[SX,adU,llk,ID,ne,eb,ay this,am];exact⟨aB,h3.le,by omega,λd hd _=>l3.get d hd,λe=>absurd e this⟩
  obtain⟨rfl,rfl⟩:=c2;have eb:(qa==qa&&x.lk==x.lk)=true:=by simp
  obtain⟨r1,r2,r3,r4⟩:=h3.p _ _ ho;have lp3:aJ (.pointer (some ⟨pb x.wk,1,none⟩)) U3=some (.af (o.s:Int),U3):=gH r4 rfl;have ad:=λW'=>dP W' (o.s:Int) 1
  have e1:(o.s:Int)+1=((o.s+1:Nat):Int):=by omega
  have s3:bU 1 (.pointer (some ⟨pb x.wk,1,none⟩)) (.af ((o.s+1:Nat):Int)) U3=some (ag,U3.put (pb x.wk) (.cells [.af ((me o).c:Int),.af ((me o).s:Int),.bool (me o).e])):=by rw[qj,jg r4];rfl
  have h4:=h3.abi ho (me o);rw[e1]at ad;simp only[SX,adU,llk,ID,ne,eb,lp3,ad,s3,bk,am];exact⟨aB,h4.le,by rw[AW.cG];omega,λd hd fe=>(AW.aE _ _ (bL fe)).trans (l3.get d hd),λ_=>h4⟩
 obtain⟨q,W',h1,rfl,h2,h3,h5,h4⟩:=wb (Q:=λq W'=>q=.af (if iN v (bh s o.c).op o.s=((kd,x.lk),0)then 0 else 6)/\Le V W'/\U.next<=W'.next/\(∀d,d<U.next->d≠pb x.wk->W'.get d=U.get d)/\(iN v (bh s o.c).op o.s=((kd,x.lk),0)->gL V W' v sv ev (s.SU x.wk (me o)) at_ cv bo pb)) kw pX
  (λq W' ⟨e,a,a',_,b⟩ bi hp=>⟨e,h.le,aS _,λ_ _ _=>rfl,λhe=>h.back (b he) bi⟩)
 exact⟨W',h1,h2,h3,h5,h4⟩
end
def zS{l:List oK}{c:Nat}(hc:c<l.length)(f:oK->oK):xK l c f=l.set c (f l[c]):=by unfold xK;rw[dm hc]
section
variable {Z V U U':AW} {v:cT} {sv ev cv:ae} {s:RS} {at_:Int} {bo:Option Nat} {pb:Int->Nat} {x:eg} {o:dZ}
def gL.acB(h:gL V U v sv ev s at_ cv bo pb){es:dO}{lk:Int->Option Int}(hm:∃n,o8 (U.put (V.next+1) es) (V.next+1) (λk=>(lk k).map (Value.int .i64)) n):gL V (U.put (V.next+1) es) v sv ev {s with lk:=lk} at_ cv bo pb:=by
 have hn:=h.nx;obtain⟨n,ho⟩:=h.o
 exact⟨h.le.put (by omega) _,by rw[AW.cG];omega,(AW.aE _ _ (by omega)).trans h.w,(AW.aE _ _ (by omega)).trans h.r,h.c.dK (aS _) λB hB=>AW.aE _ _ (by have:=h.b B hB;omega),⟨n,ho.dK (AW.aE _ _ (by omega))⟩,hm,
  λk q hk=>let⟨a,b,c,d⟩:=h.p k q hk;⟨a,b,c,(AW.aE _ _ (by omega)).trans d⟩,h.b,h.inj⟩
def gL.iC(h:gL V U v sv ev s at_ cv bo pb)(k id:Int):∃U',g8 Tryz.prog 92 (.map (some (V.next+1))) (.af k) (.af id) U=some (ag,U')/\U'.next=U.next/\gL V U' v sv ev {s with lk:=λj=>if j=k then some id else s.lk j} at_ cv bo pb:=by
 obtain⟨m,hl⟩:=h.l;obtain⟨es,c,h1,h2⟩:=FQ hl Zu Tryz.underlying3 k (.af id);have e:(λj=>(if j=k then some id else s.lk j).map (Value.int .i64))=λj=>if j=k then some (Value.int .i64 id)else(s.lk j).map (Value.int .i64):=by funext j;split<;>rfl
 exact⟨_,h1,rfl,h.acB ⟨_,by rw[e];exact h2⟩⟩
def gL.ad7(h:gL V U v sv ev s at_ cv bo pb)(k:Int):∃U',aG Tryz.prog .delete #[92,3] 0 #[false,false] [.map (some (V.next+1)),.af k] U=some (.tuple #[],U')/\U'.next=U.next/\gL V U' v sv ev {s with lk:=λj=>if j=k then none else s.lk j} at_ cv bo pb/\∀d,d≠V.next+1->U'.get d=U.get d:=by
 obtain⟨m,hl⟩:=h.l;obtain⟨es,c,h1,h2⟩:=G9 hl Zu Tryz.underlying3 [3] k;have e:(λj=>(if j=k then none else s.lk j).map (Value.int .i64))=λj=>if j=k then none else(s.lk j).map (Value.int .i64):=by funext j;split<;>rfl
 refine⟨U.put (V.next+1) (.map es c),?_,rfl,h.acB ⟨_,by rw[e];exact h2⟩,λd hd=>AW.aE _ _ (bL hd)⟩;show(mb Tryz.prog U #[92,3] (.map (some (V.next+1))) (.af k)).map _=_;have:(#[92,3]:Array ai)=(92::[3]).toArray:=rfl;rw[this,h1];rfl
def gL.ae3(h:gL V U v sv ev s at_ cv bo pb){es:dO}{of:Int->Option dZ}{Ii:Int->Nat}(hm:∃n,o8 (U.put V.next es) V.next (λk=>(of k).map λ_=>cp (Ii k)) n)
 (hp:∀k o,of k=some o->V.next+5<=Ii k/\Ii k<U.next/\bo≠some (Ii k)/\U.get (Ii k)=some (.cells [.af (o.c:Int),.af (o.s:Int),.bool o.e]))
 (hi:∀k k' o o',of k=some o->of k'=some o'->Ii k=Ii k'->k=k'):gL V (U.put V.next es) v sv ev {s with of:=of} at_ cv bo Ii:=by
 have hn:=h.nx;obtain⟨n,hl⟩:=h.l
 exact⟨h.le.put (by omega) _,by rw[AW.cG];omega,(AW.aE _ _ (by omega)).trans h.w,(AW.aE _ _ (by omega)).trans h.r,h.c.dK (aS _) λB hB=>AW.aE _ _ (by have:=h.b B hB;omega),hm,⟨n,hl.dK (AW.aE _ _ (by omega))⟩,
  λk q hk=>let⟨a,b,c,d⟩:=hp k q hk;⟨a,b,c,(AW.aE _ _ (by omega)).trans d⟩,h.b,hi⟩
def gL.ai2(h:gL V U v sv ev s at_ cv bo pb)(k:Int):∃U',aG Tryz.prog .delete #[91,3] 0 #[false,false] [.map (some V.next),.af k] U=some (.tuple #[],U')/\U'.next=U.next/\gL V U' v sv ev {s with of:=λj=>if j=k then none else s.of j} at_ cv bo pb:=by
 obtain⟨m,hl⟩:=h.o;obtain⟨es,c,h1,h2⟩:=G9 hl Zr Tryz.underlying3 [3] k;have e:(λj=>(if j=k then none else s.of j).map λ_=>cp (pb j))=λj=>if j=k then none else(s.of j).map λ_=>cp (pb j):=by funext j;split<;>rfl
 refine⟨U.put V.next (.map es c),?_,rfl,h.ae3 ⟨_,by rw[e];exact h2⟩ (λj q hq=>?_) (λj j' q q' hq hq'=>?_)⟩
 ·show(mb Tryz.prog U #[91,3] (.map (some V.next)) (.af k)).map _=_;have:(#[91,3]:Array ai)=(91::[3]).toArray:=rfl;rw[this,h1];rfl
 ·split at hq
  ·cases hq
  ·exact h.p _ _ hq
 ·split at hq
  ·cases hq
  split at hq'
  ·cases hq'
  exact h.inj _ _ _ _ hq hq'
def gL.abG(h:gL V U v sv ev s at_ cv bo pb)(k:Int)(q:dZ){B:Nat}(hB:B<U.next)(Uw:V.next+5<=B)(hg:U.get B=some (.cells [.af (q.c:Int),.af (q.s:Int),.bool q.e]))(hbo:bo≠some B)(qr:∀j o,s.of j=some o->pb j≠B):
 ∃U',g8 Tryz.prog 91 (.map (some V.next)) (.af k) (cp B) U=some (ag,U')/\U'.next=U.next/\gL V U' v sv ev (s.SU k q) at_ cv bo (λj=>if j=k then B else pb j)/\∀d,d≠V.next->U'.get d=U.get d:=by
 obtain⟨m,hl⟩:=h.o;obtain⟨es,c,h1,h2⟩:=FQ hl Zr Tryz.underlying3 k (cp B);have e:(λj=>((if j=k then some q else s.of j):Option dZ).map λ_=>cp (if j=k then B else pb j))=λj=>if j=k then some (cp B)else(s.of j).map λ_=>cp (pb j):=by funext j;split<;>rfl
 refine⟨_,h1,rfl,h.ae3 ⟨_,by rw[e];exact h2⟩ (λj r hr=>?_) (λj j' r r' hr hr' he=>?_),λd hd=>AW.aE _ _ (bL hd)⟩
 ·by_cases e:j=k
  ·rw[ax e]at hr|-;injection hr with hr;subst hr;exact⟨Uw,hB,hbo,hg⟩
  ·rw[ay e]at hr|-;exact h.p _ _ hr
 ·by_cases e:j=k
  ·by_cases e':j'=k
   ·rw[e,e']
   ·rw[ax e,ay e']at he;rw[ay e']at hr';exact absurd he.symm (qr _ _ hr')
  ·by_cases e':j'=k
   ·rw[ay e,ax e']at he;rw[ay e]at hr;exact absurd he (qr _ _ hr)
   ·rw[ay e,ay e']at he;rw[ay e]at hr;rw[ay e']at hr';exact h.inj _ _ _ _ hr hr' he
def gL.Ps(h:gL V U v sv ev s at_ cv bo pb){c B:Nat}(hc:c<s.cl.length)(hB:bo=some B)(y:oK):gL V (U.put B (.cells ((s.cl.set c y).flatMap fG))) v sv ev {s with cl:=s.cl.set c y} at_ cv bo pb:=by
 have hn:=h.nx;have hb:=h.b B hB;obtain⟨n,ho⟩:=h.o;obtain⟨m,hl⟩:=h.l;refine⟨h.le.put (by omega) _,by rw[AW.cG];omega,(AW.aE _ _ (by omega)).trans h.w,(AW.aE _ _ (by omega)).trans h.r,?_,⟨n,ho.dK (AW.aE _ _ (by omega))⟩,⟨m,hl.dK (AW.aE _ _ (by omega))⟩,λk q hk=>?_,h.b,h.inj⟩
 ·rcases h.c with⟨e,-⟩|⟨h0,B',h1,h2,h3,h4⟩
  ·rw[e]at hc;cases hc
  ·rw[hB]at h1;injection h1 with h1;subst h1;exact .inr ⟨λe=>(by have:=cI List.length e;rw[nf]at this;rw[this]at hc;simp at hc),B,hB,h2,by rw[nf];exact h3,AW.bE _ _ _⟩
 ·obtain⟨a,b,c',d⟩:=h.p k q hk;exact⟨a,b,c',(AW.aE _ _ (λe=>c' (by rw[hB,e]))).trans d⟩
end
section
variable {U:AW} {m:List oK} {B c:Nat}
def rm(pre mid post vs:List ae)(p:Nat)(h:p+vs.length<=mid.length):fN (pre++(mid++post)) (pre.length+p) vs=pre++(fN mid p vs++post):=by unfold fN;rw[List.take_length_add_append,List.take_append_of_le_length (by omega),lH,List.drop_length_add_append,List.drop_append_of_le_length h];simp only[ji]
def X1(e:oK)(n:Int):fN (fG e) 24 [.af n]=fG {e with co:=n}:=rfl
def Z9(e:oK)(n:Int):fN (fG e) 25 [.af n]=fG {e with an:=n}:=rfl
def WV(e:oK)(r:HU):fN (fG e) 14 (GZ r).cells.toList=fG {e with rp:=r}:=rfl
def Lh(hB:U.get B=some (.cells (m.flatMap fG)))(hc:c<m.length)(n:Int):bU 1 (.pointer (some ⟨B,c*26+24,none⟩)) (.af n) U=some (ag,U.put B (.cells ((m.set c {m[c]with co:=n}).flatMap fG))):=by have hl:=AM (m:=m) (i:=c) (by omega);rw[pa hc]at hB;rw[rR (n:=1) (v:=.af n) hB rfl (by rw[cm,cm,hl,cQ];show c*26+24+1<=_;omega) rfl];have:=rm ((m.take c).flatMap fG) (fG m[c]) ((m.drop (c+1)).flatMap fG) [.af n] 24 (by rw[cQ];show 24+1<=26;omega);rw[hl,X1]at this;rw[wv hc];exact cI (λc=>some (ag,U.put B (.cells c))) this
def K8(hB:U.get B=some (.cells (m.flatMap fG)))(hc:c<m.length)(n:Int):bU 1 (.pointer (some ⟨B,c*26+25,none⟩)) (.af n) U=some (ag,U.put B (.cells ((m.set c {m[c]with an:=n}).flatMap fG))):=by have hl:=AM (m:=m) (i:=c) (by omega);rw[pa hc]at hB;rw[rR (n:=1) (v:=.af n) hB rfl (by rw[cm,cm,hl,cQ];show c*26+25+1<=_;omega) rfl];have:=rm ((m.take c).flatMap fG) (fG m[c]) ((m.drop (c+1)).flatMap fG) [.af n] 25 (by rw[cQ];show 25+1<=26;omega);rw[hl,Z9]at this;rw[wv hc];exact cI (λc=>some (ag,U.put B (.cells c))) this
def K5(hB:U.get B=some (.cells (m.flatMap fG)))(hc:c<m.length)(r:HU):bU 9 (.pointer (some ⟨B,c*26+14,none⟩)) (GZ r) U=some (ag,U.put B (.cells ((m.set c {m[c]with rp:=r}).flatMap fG))):=by have hl:=AM (m:=m) (i:=c) (by omega);rw[pa hc]at hB;rw[rR (n:=9) (v:=GZ r) hB rfl (by rw[cm,cm,hl,cQ];show c*26+14+9<=_;omega) rfl];have:=rm ((m.take c).flatMap fG) (fG m[c]) ((m.drop (c+1)).flatMap fG) (GZ r).cells.toList 14 (by rw[cQ];show 14+9<=26;omega);rw[hl,WV]at this;rw[wv hc];exact cI (λc=>some (ag,U.put B (.cells c))) this
end
def pD(s:RS)(i:Nat)(x:eg):RS:=
 if x.k=1 then{s with cl:=s.cl++[⟨x.id,x.wk,x.op,uM,i,-1,-1⟩],of:=λw=>if w=x.wk then some ⟨s.cl.length,0,false⟩else s.of w}
 else match s.of x.wk with
  |none=>s
  |some o=>
   if x.k=5 then{s with cl:=xK s.cl o.c λc=>{c with an:=i},of:=λw=>if w=x.wk then none else s.of w}else
   if x.k=6 then{s with of:=λw=>if w=x.wk then some ⟨o.c,o.s,true⟩else s.of w}else
   {s with cl:=if x.k=3 then xK s.cl o.c λc=>{c with co:=i,rp:=x.rp}else s.cl,of:=λw=>if w=x.wk then some ⟨o.c,o.s+1,o.e⟩else s.of w,lk:=λk=>if k=x.lk then(if x.k=2 then some x.id else if x.k=4 then none else s.lk k)else s.lk k}
def RK{s:RS}{x:eg}(h:eF s x=0)(i:Nat):Hj s i x=pD (vw s x) i x:=by
 unfold Hj pD vw;by_cases c1:x.k=1
 ·simp only[ax c1]
 ·simp only[ay c1];unfold eF at h;rw[ay c1]at h;cases ho:s.of x.wk with
  |none=>rw[ho]at h;exact absurd (show(4:Int)=0 from h) (by decide)
  |some o=>simp only
def QW(v:cT)(s:RS)(x:eg):cL v (vw s x) x=cL v s x:=rfl
def qu(V U U':AW)(v:cT)(sv ev:ae)(s:RS)(i:Nat)(x:eg):Prop:=
 Le V U'/\U.next<=U'.next/\(cL v s x=0->∃cv bo pb,gL V U' v sv ev (pD s i x) i cv bo pb)
section
variable {Z V U U':AW} {v:cT} {sv ev cv:ae} {s:RS} {i:Nat} {bo:Option Nat} {pb:Int->Nat} {x:eg} {o:dZ}
def td{t:Option (ae×AW)}{o:Option (ae×AW)}{e:Int}(h:gL V U v sv ev s i cv bo pb)(kw:Ok t λr=>r.1=.af e/\qu V U r.2 v sv ev s i x)(OT:∀{r},t=some r->o=some (gc U r)):∃U',o=some (.af e,U')/\qu V U U' v sv ev s i x:=by
 obtain⟨q,W',h1,rfl,h2⟩:=wb (Q:=λq W'=>q=.af e/\qu V U W' v sv ev s i x) kw OT
  (λq W' ⟨e,a,b,c⟩ bi hp=>⟨e,h.le,aS _,λhe=>let⟨nG,bo',Ii,k⟩:=c he;⟨nG,bo',Ii,h.back k bi⟩⟩)
 exact⟨W',h1,h2⟩
open Classical in
def pZ(ho:s.of x.wk=some o)(h1:x.k≠1)(h5:x.k≠5)(h6:x.k≠6):cL v s x=if iN v (bh s o.c).op o.s=((jI x.k,x.lk),0)then(if x.k=2/\(s.lk x.lk).isSome=true then 20 else 0)else 6:=by unfold cL;rw[ay h1,ho];simp only[ay h5,ay h6,ne_eq,ite_not]
def BQ(ho:s.of x.wk=some o)(h1:x.k≠1)(h5:x.k≠5)(h6:x.k≠6):pD s i x={s with cl:=if x.k=3 then xK s.cl o.c λc=>{c with co:=i,rp:=x.rp}else s.cl,of:=λw=>if w=x.wk then some (me o)else s.of w,lk:=λk=>if k=x.lk then(if x.k=2 then some x.id else if x.k=4 then none else s.lk k)else s.lk k}:=by unfold pD;rw[ay h1,ho];simp only[ay h5,ay h6];rfl
open Classical in
def To(hG:GW V)(h:gL V U v sv ev s i cv bo pb)(hI:na s)(ho:s.of x.wk=some o)(hs:eX V sv v.az)(hv:v.az.length<1000)(hk:x.k=2):
 ∃U',bl (.func (.func 49) #[] #[]) [cp (V.next+2),BF x] U=some (.af (cL v s x),U')/\qu V U U' v sv ev s i x:=by
 refine td h ?_ tz;unfold oX;obtain⟨U1,j7⟩:∃U1,U1=U.add (.cells (eY x)):=⟨_,rfl⟩;have l1:Le U U1:=by rw[j7];exact(Le.refl _).add _
 have n1:U1.next=U.next+1:=by rw[j7];rfl
 have hb:U1.get U.next=some (.cells (eY x)):=by rw[j7];exact AW.a8 _ _
 have bx:=tA x U;rw[<-j7]at bx;have h1:=h.mono l1;obtain⟨U2,k1,k2,k3,k4,k5⟩:=Kv (x:=x) hG h1 hI ho hs hv 1;have hE:=pZ (v:=v) ho (by omega) (by omega) (by omega);have hkt:jI x.k=1:=by unfold jI;rw[ax hk]
 rw[hkt]at hE;obtain⟨-,pb2,-,-⟩:=h.p _ _ ho;simp only[SX,bx,kQ hb,k1];by_cases c1:iN v (bh s o.c).op o.s=((1,x.lk),0);case neg=>
  have O4:cL v s x=6:=by rw[hE,ay c1]
  have d:decide ((6:Int)=0)=false:=rfl;simp only[SX,ay c1,d,am];exact⟨by rw[O4],k2,by omega,λe=>by rw[O4]at e;exact absurd e (by decide)⟩
 rw[ax c1]at hE;have h2:=k5 c1;have iu:U2.get U.next=some (.cells (eY x)):=(k4 _ (by omega) (by omega)).trans hb;have d:decide ((0:Int)=0)=true:=rfl;obtain⟨l5,l6,l7,-⟩:=h2.ld;have lL:=h2.adD x.lk;have e1:(s.SU x.wk (me o)).lk=s.lk:=rfl;rw[e1]at lL;cases c2:(s.lk x.lk).isSome with
 |true=>
  have O4:cL v s x=20:=by rw[hE,ax ⟨hk,c2⟩]
  rw[c2]at lL;simp only[SX,ax c1,aX,aK,l7,rA iu,lL,am];exact⟨by rw[O4],k2,by omega,λe=>by rw[O4]at e;exact absurd e (by decide)⟩
 |false=>
  have O4:cL v s x=0:=by rw[hE,ay (by rw[c2];simp)]
  rw[c2]at lL;obtain⟨U3,m1,m2,m3⟩:=h2.iC x.lk x.id;simp only[SX,ax c1,aX,aK,l7,rA iu,lL,fa iu,m1,am];refine⟨by rw[O4],m3.le,by omega,λ_=>⟨cv,bo,pb,?_⟩⟩;rw[BQ ho (by omega) (by omega) (by omega)];simp only[hk,bk,ay (show¬(2:Int)=3 by decide)];exact m3
open Classical in
def UK(hG:GW V)(h:gL V U v sv ev s i cv bo pb)(hI:na s)(ho:s.of x.wk=some o)(hs:eX V sv v.az)(hv:v.az.length<1000)(hk:x.k=4):
 ∃U',bl (.func (.func 51) #[] #[]) [cp (V.next+2),BF x] U=some (.af (cL v s x),U')/\qu V U U' v sv ev s i x:=by
 refine td h ?_ tv;unfold oM;obtain⟨U1,j7⟩:∃U1,U1=U.add (.cells (eY x)):=⟨_,rfl⟩;have l1:Le U U1:=by rw[j7];exact(Le.refl _).add _
 have n1:U1.next=U.next+1:=by rw[j7];rfl
 have hb:U1.get U.next=some (.cells (eY x)):=by rw[j7];exact AW.a8 _ _
 have bx:=tA x U;rw[<-j7]at bx;have h1:=h.mono l1;obtain⟨l5,l6,l7,-⟩:=h1.ld;obtain⟨U2,m1,m2,m3,m4⟩:=h1.ad7 x.lk;have Th:=h.nx;have iu:U2.get U.next=some (.cells (eY x)):=(m4 _ (by omega)).trans hb;obtain⟨U3,k1,k2,k3,k4,k5⟩:=Kv (x:=x) hG m3 ⟨hI.ids,hI.of,hI.len,hI.wk,hI.steps⟩ ho hs hv 3;have hE:=pZ (v:=v) ho (by omega) (by omega) (by omega);have hkt:jI x.k=3:=by unfold jI;rw[bZ,bZ]
 rw[hkt,ay (show¬(x.k=2/\(s.lk x.lk).isSome=true)by omega)]at hE;simp only[SX,bx,aX,aK,l7,rA hb,m1,kQ iu,k1,am];refine⟨by rw[hE];rfl,k2,by omega,λe=>?_⟩;rw[hE]at e;split at e
 ·rename_i c1;have h2:=k5 c1;refine⟨cv,bo,pb,?_⟩;rw[BQ ho (by omega) (by omega) (by omega)];simp only[hk,bk,ay (show¬(4:Int)=3 by decide),ay (show¬(4:Int)=2 by decide)];exact h2
 ·omega
open Classical in
def MO(hG:GW V)(h:gL V U v sv ev s i cv bo pb)(hI:na s)(ho:s.of x.wk=some o)(hs:eX V sv v.az)(hv:v.az.length<1000)(hk:x.k=5):
 ∃U',bl (.func (.func 52) #[] #[]) [cp (V.next+2),BF x] U=some (.af (cL v s x),U')/\qu V U U' v sv ev s i x:=by
 refine td h ?_ qF;unfold mH;obtain⟨U1,j7⟩:∃U1,U1=U.add (.cells (eY x)):=⟨_,rfl⟩;have l1:Le U U1:=by rw[j7];exact(Le.refl _).add _
 have n1:U1.next=U.next+1:=by rw[j7];rfl
 have hb:U1.get U.next=some (.cells (eY x)):=by rw[j7];exact AW.a8 _ _
 have bx:=tA x U;rw[<-j7]at bx;have h1:=h.mono l1;obtain⟨l5,l6,l7,l8,l9,VD,lv⟩:=h1.ld;have lk:=h1.look x.wk;rw[ho]at lk;simp only[cD,pB]at lk;obtain⟨p1,p2,p3,p4⟩:=h1.p _ _ ho;have lm:=hI.of _ _ ho;obtain⟨B,Uw,hBn,hB,S3⟩:=h1.call lm;obtain⟨-,f2,-⟩:=oW hB lm;have Z6:aJ (cp (pb x.wk)) U1=some (.af (o.c:Int),U1):=gH p4 rfl;have lp1:aJ (.pointer (some ⟨pb x.wk,1,none⟩)) U1=some (.af (o.s:Int),U1):=gH p4 rfl;have px:=D3 (o:=(bh s o.c).op) (hs.mono h1.le) hv (hG.mono h1.le);have hE:cL v s x=if(o.s:Int)<(lF v (bh s o.c).op).1 then 6 else 0:=by unfold cL;rw[bZ,ho];simp only[ax hk]
 simp only[SX,bx,aX,aK,l6,eK hb,lk,lv,l5,Z6,S3,f2,px,lp1];by_cases c1:(o.s:Int)<(lF v (bh s o.c).op).1
 ·have d:=aY c1;rw[ax c1]at hE;simp only[SX,d,am];exact⟨by rw[hE],h1.le,by omega,λe=>by rw[hE]at e;exact absurd e (by decide)⟩
 have d:=bu c1;rw[ay c1]at hE;have st:=K8 hB lm (i:Int);have h2:=h1.Ps lm Uw {s.cl[o.c]with an:=(i:Int)};obtain⟨U2,ki⟩:∃U2,U2=U1.put B (.cells ((s.cl.set o.c {s.cl[o.c]with an:=(i:Int)}).flatMap fG)):=⟨_,rfl⟩;rw[<-ki]at st h2;have n2:U2.next=U1.next:=by rw[ki];rfl
 have fe:B≠U.next:=λe=>by have:=h.c.lt Uw;omega
 have iu:U2.get U.next=some (.cells (eY x)):=by rw[ki];exact(AW.aE _ _ fe).trans hb
 obtain⟨-,q6,-⟩:=h2.ld;obtain⟨U3,m1,m2,m3⟩:=h2.ai2 x.wk;simp only[SX,d,VD,st,q6,eK iu,m1,am];refine⟨by rw[hE],m3.le,by omega,λ_=>⟨cv,bo,pb,?_⟩⟩;have er:pD s i x={s with cl:=xK s.cl o.c λc=>{c with an:=i},of:=λw=>if w=x.wk then none else s.of w}:=by unfold pD;rw[bZ,ho];simp only[ax hk]
 rw[er,zS lm];exact m3
def aej(r:HU):fX (GZ r) (GZ r)=true:=oV (by simp[Se,sS])
open Classical in
def M8(hG:GW V)(h:gL V U v sv ev s i cv bo pb)(hI:na s)(ho:s.of x.wk=some o)(hs:eX V sv v.az)(hv:v.az.length<1000)(hk:x.k=3):
 ∃U',bl (.func (.func 50) #[] #[]) [cp (V.next+2),BF x] U=some (.af (cL v s x),U')/\qu V U U' v sv ev s i x:=by
 refine td h ?_ qI;unfold mX;obtain⟨U1,j7⟩:∃U1,U1=U.add (.cells (eY x)):=⟨_,rfl⟩;have l1:Le U U1:=by rw[j7];exact(Le.refl _).add _
 have n1:U1.next=U.next+1:=by rw[j7];rfl
 have hb:U1.get U.next=some (.cells (eY x)):=by rw[j7];exact AW.a8 _ _
 have bx:=tA x U;rw[<-j7]at bx;have h1:=h.mono l1;obtain⟨l5,l6,l7,l8,l9,VD,lv⟩:=h1.ld;have lk:=h1.look x.wk;rw[ho]at lk;simp only[cD,pB]at lk;obtain⟨p1,p2,p3,p4⟩:=h1.p _ _ ho;have lm:=hI.of _ _ ho;obtain⟨B,Uw,hBn,hB,S3⟩:=h1.call lm;have Z6:aJ (cp (pb x.wk)) U1=some (.af (o.c:Int),U1):=gH p4 rfl;have fe:B≠U.next:=λe=>by have:=h.c.lt Uw;omega
 have st:=Lh hB lm (i:Int);have h2:=h1.Ps lm Uw {s.cl[o.c]with co:=(i:Int)};obtain⟨U2,ki⟩:∃U2,U2=U1.put B (.cells ((s.cl.set o.c {s.cl[o.c]with co:=(i:Int)}).flatMap fG)):=⟨_,rfl⟩;have Lc:U2.get B=some (.cells ((s.cl.set o.c {s.cl[o.c]with co:=(i:Int)}).flatMap fG)):=by rw[ki];exact AW.bE _ _ _
 rw[<-ki]at st h2;have n2:U2.next=U1.next:=by rw[ki];rfl
 have iu:U2.get U.next=some (.cells (eY x)):=by rw[ki];exact(AW.aE _ _ fe).trans hb
 have qN:o.c<(s.cl.set o.c {s.cl[o.c]with co:=(i:Int)}).length:=by rw[nf];exact lm
 have st2:=K5 Lc qN x.rp;have h3:=h2.Ps qN Uw {(s.cl.set o.c {s.cl[o.c]with co:=(i:Int)})[o.c]with rp:=x.rp};obtain⟨U3,CW⟩:∃U3,U3=U2.put B (.cells (((s.cl.set o.c {s.cl[o.c]with co:=(i:Int)}).set o.c {(s.cl.set o.c {s.cl[o.c]with co:=(i:Int)})[o.c]with rp:=x.rp}).flatMap fG)):=⟨_,rfl⟩;rw[<-CW]at st2 h3;have n3:U3.next=U2.next:=by rw[CW];rfl
 have C1:U3.get U.next=some (.cells (eY x)):=by rw[CW];exact(AW.aE _ _ fe).trans iu
 have ecl:(s.cl.set o.c {s.cl[o.c]with co:=(i:Int)}).set o.c {(s.cl.set o.c {s.cl[o.c]with co:=(i:Int)})[o.c]with rp:=x.rp}=s.cl.set o.c {s.cl[o.c]with co:=(i:Int),rp:=x.rp}:=by rw[List.set_set,List.getElem_set_self]
 have h3':gL V U3 v sv ev {s with cl:=s.cl.set o.c {s.cl[o.c]with co:=(i:Int),rp:=x.rp}} i cv bo pb:=by
  have e:({{s with cl:=s.cl.set o.c {s.cl[o.c]with co:=(i:Int)}}with cl:=(s.cl.set o.c {s.cl[o.c]with co:=(i:Int)}).set o.c {(s.cl.set o.c {s.cl[o.c]with co:=(i:Int)})[o.c]with rp:=x.rp}}:RS)={s with cl:=s.cl.set o.c {s.cl[o.c]with co:=(i:Int),rp:=x.rp}}:=by rw[ecl]
  rw[<-e];exact h3
 have hI3:na {s with cl:=s.cl.set o.c {s.cl[o.c]with co:=(i:Int),rp:=x.rp}}:=by
  refine⟨λj c hc=>?_,λw q hq=>?_,?_,hI.wk,hI.steps⟩
  ·simp only[rH]at hc;by_cases e:o.c=j
   ·rw[ax e,nj]at hc;injection hc with hc;subst hc;exact hI.ids j s.cl[o.c] (by rw[<-e];exact dm lm)
   ·rw[ay e]at hc;exact hI.ids j c hc
  ·simp only[nf];exact hI.of w q hq
  ·simp only[nf];exact hI.len
 have eop:(bh {s with cl:=s.cl.set o.c {s.cl[o.c]with co:=(i:Int),rp:=x.rp}} o.c).op=(bh s o.c).op:=by rw[nJ lm,nJ (s:={s with cl:=s.cl.set o.c {s.cl[o.c]with co:=(i:Int),rp:=x.rp}}) (by simp only[nf];exact lm)];simp only[List.getElem_set_self]
 obtain⟨U4,k1,k2,k3,k4,k5⟩:=Kv (x:=x) hG h3' hI3 ho hs hv 2;rw[eop]at k1 k5;have hE:=pZ (v:=v) ho (by omega) (by omega) (by omega);have hkt:jI x.k=2:=by unfold jI;rw[bZ,ax hk]
 rw[hkt,ay (show¬(x.k=2/\(s.lk x.lk).isSome=true)by omega)]at hE;simp only[SX,bx,aX,aK,l5,l6,eK hb,lk,Z6,S3,VD,wQ hb,st,rE,wQ iu,aej,lO,st2,kQ C1,k1,am];refine⟨by rw[hE],k2,by omega,λe=>?_⟩;rw[hE]at e;split at e
 ·rename_i c1;have h4:=k5 c1;refine⟨cv,bo,pb,?_⟩;rw[BQ ho (by omega) (by omega) (by omega)];have elk:(λk=>if k=x.lk then(if x.k=2 then some x.id else if x.k=4 then none else s.lk k)else s.lk k)=s.lk:=by
   funext k;by_cases e:k=x.lk
   ·rw[ax e,bZ,bZ]
   ·rw[ay e]
  rw[elk,ax hk,zS lm];exact h4
 ·omega
end
def acj{α:Type}{P:Program}{W:AW}{ts:Array ai}{z bytes:Nat}{f:α->List ae}{v:ae}{l:List α}{bo:Option Nat}(a:α)(hk:lS P ts z bytes=true)(hf:∀a,(f a).length=z)(h1:∀a,(f a).all Eng.one=true)
 (h:uy W z f v l bo)(hb:l.length+1<1099511627776)(iu:(2*(l.length+1)+192)*bytes<=281474976710656):
 ∃v' W',aO P (W.add (.cells (f a))) ts v (.slice (some ⟨W.next,0,none⟩) 1 1)=some (v',W')/\uy W' z f v' (l++[a]) (some (W.next+1))/\W'.next=W.next+2/\∀b,b<W.next->bo≠some b->W'.get b=W.get b:=by
 have h':uy (W.add (.cells (f a))) z f v l bo:=h.dK (by rw[AW.aL];omega) λB hB=>AW.bC _ _ (by have:=h.lt hB;omega)
 obtain⟨v',W',a1,a2,a3,a4⟩:=h'.push (a:=a) hk hf h1 (b:=W.next) (c:=1) bp hb iu;rw[AW.aL]at a2 a3;exact⟨v',W',a1,a2,a3,λb hb fe=>(a4 b (by rw[AW.aL];omega) fe).trans (AW.bC _ _ (by omega))⟩
def KE{α:Type}{W:AW}{z:Nat}{f:α->List ae}{v:ae}{l:List α}{bo:Option Nat}(h:uy W z f v l bo):v.cells=#[v]/\Eng.one v=true:=by rcases h with⟨-,rfl,-⟩|⟨-,B,-,-,rfl,-⟩<;>exact⟨rfl,rfl⟩
def TV:lS Tryz.prog #[33,33] 26 192=true:=by kernel_rfl
def abf(y:oK)(W:AW):aC Tryz.prog 33 1 [(0,OZ y)] W=some (.slice (some ⟨W.next,0,none⟩) 1 1,W.add (.cells (fG y))):=aH (by kernel_rfl) rfl
def abN(id wk a b c:Int)(o:pV)(W:AW):bH Tryz.prog 45 [(0,.af id),(1,.af wk),(2,yb o),(4,.af a),(5,.af b),(6,.af c)] W=some (OZ ⟨id,wk,o,uM,a,b,c⟩,W):=aH (by kernel_rfl) rfl
def adC(n:Int)(W:AW):bH Tryz.prog 125 [(0,.af n)] W=some (.agg #[.af n,.af 0,.bool false],W):=aH (by kernel_rfl) rfl
section
variable {Z V U U':AW} {v:cT} {sv ev cv:ae} {s:RS} {i:Nat} {bo:Option Nat} {pb:Int->Nat} {x:eg} {o:dZ}
def gL.push(h:gL V U v sv ev s (i:Int) cv bo pb)(hl:s.cl.length<=1000)(y:oK):∃nG U1 U2,aO Tryz.prog (U.add (.cells (fG y))) #[33,33] cv (.slice (some ⟨U.next,0,none⟩) 1 1)=some (nG,U1)/\bU 1 (.pointer (some ⟨V.next+2,5,none⟩)) nG U1=some (ag,U2)/\U.next<=U2.next/\gL V U2 v sv ev {s with cl:=s.cl++[y]} i nG (some (U.next+1)) pb:=by
 have hn:=h.nx;obtain⟨nG,U1,a1,a2,a3,a4⟩:=acj y TV cQ zZ h.c (by omega) (by omega);have nb:∀{b},b<V.next+5->bo≠some b:=λhb e=>by have:=h.b _ e;omega
 have hw1:U1.get (V.next+2)=some (.cells (Cr v sv ev cv V.next (V.next+1) s.tn s.st i)):=(a4 _ (by omega) (nb (by omega))).trans h.w;have st:bU 1 (.pointer (some ⟨V.next+2,5,none⟩)) nG U1=some (ag,U1.put (V.next+2) (.cells (Cr v sv ev nG V.next (V.next+1) s.tn s.st i))):=by rw[ip (KE a2).1 (KE a2).2,Fa hw1];rfl
 obtain⟨n,ho⟩:=h.o;obtain⟨m,hm⟩:=h.l;have g:∀b,b<U.next->b≠V.next+2->bo≠some b->(U1.put (V.next+2) (.cells (Cr v sv ev nG V.next (V.next+1) s.tn s.st i))).get b=U.get b:=λb h1 h2 h3=>(AW.aE _ _ (bL h2)).trans (a4 b h1 h3)
 refine⟨nG,U1,_,a1,st,by rw[AW.cG];omega,⟨by rw[AW.cG];have:=h.le.next;omega,λb hb=>(g b (by omega) (by omega) (nb (by omega))).trans (h.le.get b hb)⟩,by rw[AW.cG];omega,AW.bE _ _ _,(g _ (by omega) (by omega) (nb (by omega))).trans h.r,?_,⟨n,ho.dK (g _ (by omega) (by omega) (nb (by omega)))⟩,⟨m,hm.dK (g _ (by omega) (by omega) (nb (by omega)))⟩,λk q hk=>?_,λB hB=>?_,h.inj⟩
 ·exact a2.dK (by rw[AW.cG];omega) λB hB=>AW.aE _ _ (by injection hB with hB;omega)
 ·obtain⟨a,b,c,d⟩:=h.p k q hk;exact⟨a,by rw[AW.cG];omega,λe=>by injection e with e;omega,(g _ b (by omega) c).trans d⟩
 ·injection hB with hB;omega
open Classical in
def Ow(hG:GW V)(h:gL V U v sv ev s i cv bo pb)(hI:na s)(hk:x.k=1):
 ∃U',bl (.func (.func 48) #[] #[]) [cp (V.next+2),BF x] U=some (.af (cL v s x),U')/\qu V U U' v sv ev s i x:=by
 refine td h ?_ qJ;unfold mM;obtain⟨U1,j7⟩:∃U1,U1=U.add (.cells (eY x)):=⟨_,rfl⟩;have l1:Le U U1:=by rw[j7];exact(Le.refl _).add _
 have n1:U1.next=U.next+1:=by rw[j7];rfl
 have hb:U1.get U.next=some (.cells (eY x)):=by rw[j7];exact AW.a8 _ _
 have bx:=tA x U;rw[<-j7]at bx;have h1:=h.mono l1;have Th:=h.nx;obtain⟨l5,l6,l7,l8,l9,VD,lv⟩:=h1.ld;have lk:=h1.look x.wk;have hE:cL v s x=if(s.of x.wk).isSome=true then 8 else if s.cl.length=200 then 3 else if x.id≠(s.cl.length:Int)+1 then 6 else Wx x.op:=by unfold cL;rw[ax hk]
 have bad:∀{e:Int},cL v s x=e->e≠0->(Value.int .i64 e=.af (cL v s x))/\qu V U U1 v sv ev s i x:=λhe h0=>⟨by rw[he],h1.le,by omega,λe=>absurd (he.symm.trans e) h0⟩
 cases ho:s.of x.wk with
 |some o=>rw[ho]at lk hE;simp only[cD,pB]at lk;simp only[SX,bx,aX,aK,l6,eK hb,lk,pNe,am];exact bad hE (by decide)
 |none=>
 rw[ho]at lk hE;simp only[Option.map_none,Option.getD_none]at lk;rw[ay (by simp)]at hE;have fb:=hI.len;have ln:∀W',aG Tryz.prog .len #[33] 3 #[false] [cv] W'=some (.af (s.cl.length:Int),W'):=λW'=>Row.len (W:=U1) (z:=26) (at_:=pM 26 fG) (h1.c.ZX.el.row cQ (xY cQ)) Kz W' 3 #[false]
 by_cases c1:s.cl.length=200
 ·rw[ax c1]at hE;have d1:decide ((s.cl.length:Int)=200)=true:=pd;simp only[SX,bx,aX,aK,l6,eK hb,lk,Ln,l5,ln,d1,am];exact bad hE (by decide)
 rw[ay c1]at hE;have d1:decide ((s.cl.length:Int)=200)=false:=fF;have ad:=λW'=>dP W' (s.cl.length:Int) 1
 by_cases c2:x.id=(s.cl.length:Int)+1;case neg=>rw[ax c2]at hE;have d2:=bu c2;simp only[SX,bx,aX,aK,l6,eK hb,lk,Ln,l5,ln,d1,fa hb,ad,d2,am];exact bad hE (by decide)
 rw[ay (by simpa using c2)]at hE;have d2:=aY c2;have ck:=Nq x.op (hG.mono h1.le);by_cases c3:Wx x.op=0;case neg=>have d3:=bu c3;simp only[SX,bx,aX,aK,l6,eK hb,lk,Ln,l5,ln,d1,fa hb,ad,d2,rL hb,ck,d3,am];exact bad hE c3
 rw[c3]at hE;have d3:=aY c3;obtain⟨U2,ki⟩:∃U2,U2=U1.add (.cells [.af (s.cl.length:Int),.af 0,.bool false]):=⟨_,rfl⟩;have l2:Le U1 U2:=by rw[ki];exact(Le.refl _).add _
 have n2:U2.next=U1.next+1:=by rw[ki];rfl
 have bx2:cC (.agg #[.af (s.cl.length:Int),.af 0,.bool false]) U1=some (cp U1.next,U2):=by rw[ki];exact iR _
 have h2:=h1.mono l2;have g2:U2.get U1.next=some (.cells [.af ((⟨s.cl.length,0,false⟩:dZ).c:Int),.af ((⟨s.cl.length,0,false⟩:dZ).s:Int),.bool (⟨s.cl.length,0,false⟩:dZ).e]):=by rw[ki];exact AW.a8 _ _
 obtain⟨U3,m1,m2,m3,m4⟩:=h2.abG x.wk ⟨s.cl.length,0,false⟩ (B:=U1.next) (by omega) (by omega) g2 (λe=>by have:=h1.c.lt e;omega) (λj q hq=>by have:=(h1.p j q hq).2.1;omega);have C1:U3.get U.next=some (.cells (eY x)):=(m4 _ (by omega)).trans ((l2.get _ (by omega)).trans hb);obtain⟨q5,q6,q7,q8,q9,q10,-⟩:=m3.ld;obtain⟨nG,U4,U5,k1,k2,k3,k4⟩:=m3.push (by show s.cl.length<=1000;omega) ⟨x.id,x.wk,x.op,uM,i,-1,-1⟩;simp only[SX,bx,aX,aK,l6,eK hb,lk,Ln,l5,ln,d1,fa hb,ad,d2,rL hb,ck,d3,adC,bx2,m1,q5,q10,fa C1,eK C1,rL C1,abN,abf,k1,k2,am];refine⟨by rw[hE],k4.le,by omega,λ_=>⟨nG,some (U3.next+1),λj=>if j=x.wk then U1.next else pb j,?_⟩⟩;have er:pD s i x={s with cl:=s.cl++[⟨x.id,x.wk,x.op,uM,i,-1,-1⟩],of:=λw=>if w=x.wk then some ⟨s.cl.length,0,false⟩else s.of w}:=by unfold pD;rw[ax hk]
 rw[er];exact k4
def Xj{W:AW}{b:Nat}{a c d:ae}(h:W.get b=some (.cells [a,c,d]))(e:Bool):bU 1 (.pointer (some ⟨b,2,none⟩)) (.bool e) W=some (ag,W.put b (.cells [a,c,.bool e])):=by rw[ip rfl rfl,Fa h];rfl
def ad1(r:IB):fX (Ql r) (Ql r)=true:=oV (by simp[Se,sS])
open Classical in
def Qd(h:gL V U v sv ev s i cv bo pb)(hI:na s)(ho:s.of x.wk=some o)(hk:x.k=6):
 ∃U',bl (.func (.func 53) #[] #[]) [cp (V.next+2),BF x] U=some (.af (cL v s x),U')/\qu V U U' v sv ev s i x:=by
 refine td h ?_ sk;unfold nY;obtain⟨U1,j7⟩:∃U1,U1=U.add (.cells (eY x)):=⟨_,rfl⟩;have l1:Le U U1:=by rw[j7];exact(Le.refl _).add _
 have n1:U1.next=U.next+1:=by rw[j7];rfl
 have hb:U1.get U.next=some (.cells (eY x)):=by rw[j7];exact AW.a8 _ _
 have bx:=tA x U;rw[<-j7]at bx;have h1:=h.mono l1;obtain⟨l5,l6,l7,l8,l9,VD,lv⟩:=h1.ld;have lk:=h1.look x.wk;rw[ho]at lk;simp only[cD,pB]at lk;obtain⟨p1,p2,p3,p4⟩:=h1.p _ _ ho;have lm:=hI.of _ _ ho;obtain⟨B,Uw,hBn,hB,S3⟩:=h1.call lm;obtain⟨-,-,f3⟩:=oW hB lm;have Z6:aJ (cp (pb x.wk)) U1=some (.af (o.c:Int),U1):=gH p4 rfl;have hE:cL v s x=if AE (bh s o.c) o x.en then 0 else 6:=by unfold cL;rw[bZ,ho];simp only[ay (show¬x.k=5 by omega),ax hk]
 have Th:=h.nx;obtain⟨U2,ki⟩:∃U2,U2=U1.add (.cells (fG (bh s o.c))):=⟨_,rfl⟩;have pt:=Wh (bh s o.c) U1;rw[<-ki]at pt;have l2:Le U1 U2:=by rw[ki];exact(Le.refl _).add _
 have n2:U2.next=U1.next+1:=by rw[ki];rfl
 have g2:U2.get U1.next=some (.cells (fG (bh s o.c))):=by rw[ki];exact AW.a8 _ _
 have ltk:bA 4 (.pointer (some ⟨U1.next,9,none⟩)) U2=some (.agg #[.int .u32 (bh s o.c).op.t1,.int .u32 (bh s o.c).op.t2,.int .u64 (bh s o.c).op.t3,.int .u64 (bh s o.c).op.t4],U2):=fy (bm g2) rfl;have agQ:=EF ((l2.get _ (by omega)).trans hb);obtain⟨U3,CW⟩:∃U3,U3=U2.add (.cells [.int .u32 (bh s o.c).op.t1,.int .u32 (bh s o.c).op.t2,.int .u64 (bh s o.c).op.t3,.int .u64 (bh s o.c).op.t4]):=⟨_,rfl⟩;obtain⟨U4,Ub⟩:∃U4,U4=(U2.add (.cells [.int .u32 0,.int .u32 0,.int .u64 0,.int .u64 0])).add (.cells (Ua Cu)):=⟨_,rfl⟩;have a2:bc Tryz.prog 60 (U2.add (.cells [.int .u32 0,.int .u32 0,.int .u64 0,.int .u64 0]))=some (cp (U2.next+1),U4):=by rw[ahe,Ub,AW.aL]
 have n4:U4.next=U2.next+2:=by rw[Ub];rfl
 have g4:U4.get U2.next=some (.cells [.int .u32 0,.int .u32 0,.int .u64 0,.int .u64 0]):=by rw[Ub];exact(AW.bC _ _ (by rw[AW.aL];omega)).trans (AW.a8 _ _)
 have g4':U4.get (U2.next+1)=some (.cells (Ua Cu)):=by rw[Ub];exact AW.a8 (U2.add _) _
 have l4:Le U2 U4:=by rw[Ub];exact((Le.refl _).add _).add _
 have s4:=tJ (n:=4) (vs:=#[.int .u32 (bh s o.c).op.t1,.int .u32 (bh s o.c).op.t2,.int .u64 (bh s o.c).op.t3,.int .u64 (bh s o.c).op.t4]) g4 rfl rfl rfl;obtain⟨U5,Tb⟩:∃U5,U5=U4.put U2.next (.cells [.int .u32 (bh s o.c).op.t1,.int .u32 (bh s o.c).op.t2,.int .u64 (bh s o.c).op.t3,.int .u64 (bh s o.c).op.t4]):=⟨_,rfl⟩;have s4':bU 4 (cp U2.next) (.agg #[.int .u32 (bh s o.c).op.t1,.int .u32 (bh s o.c).op.t2,.int .u64 (bh s o.c).op.t3,.int .u64 (bh s o.c).op.t4]) U4=some (ag,U5):=by rw[Tb];exact s4
 have l5':Le U2 U5:=by rw[Tb];exact l4.put (aS _) _
 have g5:U5.get U2.next=some (.cells [.int .u32 (bh s o.c).op.t1,.int .u32 (bh s o.c).op.t2,.int .u64 (bh s o.c).op.t3,.int .u64 (bh s o.c).op.t4]):=by rw[Tb];exact AW.bE _ _ _
 have g5':U5.get (U2.next+1)=some (.cells (Ua Cu)):=by rw[Tb];exact(AW.aE _ _ (by omega)).trans g4'
 have aiC:=EF ((l5'.get _ (by omega)).trans ((l2.get _ (by omega)).trans hb));have s5:=tJ (n:=5) (vs:=(Ua x.en).toArray) g5' rfl rfl rfl;obtain⟨U6,hU6⟩:∃U6,U6=U5.put (U2.next+1) (.cells (Ua x.en)):=⟨_,rfl⟩;have s5':bU 5 (cp (U2.next+1)) (Ql x.en) U5=some (ag,U6):=by rw[hU6];exact s5
 have n5:U5.next=U4.next:=by rw[Tb];rfl
 have n6:U6.next=U5.next:=by rw[hU6];rfl
 have l6':Le U2 U6:=by rw[hU6];exact l5'.put (by omega) _
 have g6:U6.get U2.next=some (.cells [.int .u32 (bh s o.c).op.t1,.int .u32 (bh s o.c).op.t2,.int .u64 (bh s o.c).op.t3,.int .u64 (bh s o.c).op.t4]):=by rw[hU6];exact(AW.aE _ _ (by omega)).trans g5
 have g6':U6.get (U2.next+1)=some (.cells (Ua x.en)):=by rw[hU6];exact AW.bE _ _ _
 have gc6:U6.get U1.next=some (.cells (fG (bh s o.c))):=(l6'.get _ (by omega)).trans g2;have h6:=h1.mono (l2.trans l6');obtain⟨r1,r2,r3,r4⟩:=h6.p _ _ ho;have e0:aJ (cp (U2.next+1)) U6=some (.int .u32 x.en.se,U6):=gH g6' rfl;have e1:aJ (.pointer (some ⟨U2.next+1,1,none⟩)) U6=some (.int .u64 x.en.sr,U6):=gH g6' rfl;have e2:aJ (.pointer (some ⟨U2.next+1,2,none⟩)) U6=some (.int .u64 x.en.ep,U6):=gH g6' rfl;have e3:aJ (.pointer (some ⟨U2.next+1,3,none⟩)) U6=some (.af x.en.ga,U6):=gH g6' rfl;have e4:aJ (.pointer (some ⟨U2.next+1,4,none⟩)) U6=some (.af x.en.ti,U6):=gH g6' rfl;have t0:aJ (cp U2.next) U6=some (.int .u32 (bh s o.c).op.t1,U6):=gH g6 rfl;have t2:aJ (.pointer (some ⟨U2.next,2,none⟩)) U6=some (.int .u64 (bh s o.c).op.t3,U6):=gH g6 rfl;have t3:aJ (.pointer (some ⟨U2.next,3,none⟩)) U6=some (.int .u64 (bh s o.c).op.t4,U6):=gH g6 rfl;have c2:aJ (.pointer (some ⟨U1.next,2,none⟩)) U6=some (.af (bh s o.c).op.k,U6):=gH gc6 rfl;have Tc:aJ (.pointer (some ⟨U1.next,24,none⟩)) U6=some (.af (bh s o.c).co,U6):=gH gc6 rfl;have Tm:aJ (.pointer (some ⟨U1.next,14,none⟩)) U6=some (.af (bh s o.c).rp.er,U6):=gH gc6 rfl;have VP:aJ (.pointer (some ⟨pb x.wk,2,none⟩)) U6=some (.bool o.e,U6):=gH r4 rfl;have sB:=Xj r4 true;have h7:=h6.abi ho ⟨o.c,o.s,true⟩;have bad:¬AE (bh s o.c) o x.en->(Value.int .i64 6=.af (cL v s x))/\qu V U U6 v sv ev s i x:=λhm=>by
  have he:cL v s x=6:=by rw[hE,ay hm]
  exact⟨by rw[he],h6.le,by omega,λe=>by rw[he]at e;exact absurd e (by decide)⟩
 simp only[SX,bx,aX,aK,l6,eK hb,lk,l5,Z6,S3,f3,aaO,pt,ltk,agQ,ac1,a2,s4',rE,aiC,ad1,lO,s5',e0,t0];by_cases a1:x.en.se=(bh s o.c).op.t1;case neg=>
  have q1:=bu a1;have nm:¬AE (bh s o.c) o x.en:=λm=>a1 m.2.2.2.2.1
  simp only[SX,q1,c2];by_cases b1:(bh s o.c).op.k=9<;>by_cases b2:(bh s o.c).co<0<;>by_cases b3:(bh s o.c).rp.er=0<;>cases b4:o.e<;>
   simp only[SX,b1,b2,b3,b4,aK,Tc,Tm,aX,VP,am]<;>exact bad nm
 have q1:=aY a1;simp only[SX,q1,e1,t2];by_cases a2:x.en.sr=(bh s o.c).op.t3;case neg=>
  have q2:=bu a2;have nm:¬AE (bh s o.c) o x.en:=λm=>a2 m.2.2.2.2.2.1
  simp only[SX,q2,c2];by_cases b1:(bh s o.c).op.k=9<;>by_cases b2:(bh s o.c).co<0<;>by_cases b3:(bh s o.c).rp.er=0<;>cases b4:o.e<;>
   simp only[SX,b1,b2,b3,b4,aK,Tc,Tm,aX,VP,am]<;>exact bad nm
 have q2:=aY a2;simp only[SX,q2,e2,t3];by_cases a3:x.en.ep=(bh s o.c).op.t4;case neg=>
  have q3:=bu a3;have nm:¬AE (bh s o.c) o x.en:=λm=>a3 m.2.2.2.2.2.2.1
  simp only[SX,q3,c2];by_cases b1:(bh s o.c).op.k=9<;>by_cases b2:(bh s o.c).co<0<;>by_cases b3:(bh s o.c).rp.er=0<;>cases b4:o.e<;>
   simp only[SX,b1,b2,b3,b4,aK,Tc,Tm,aX,VP,am]<;>exact bad nm
 have q3:=aY a3;simp only[SX,q3,c2];by_cases b1:(bh s o.c).op.k=9;case neg=>have d:=bu b1;simp only[SX,d,am];exact bad λm=>b1 m.1
 have d1:=aY b1;by_cases b2:(bh s o.c).co<0
 ·have d:=aY b2;simp only[SX,d1,Tc,d,am];exact bad λm=>by have:=m.2.1;omega
 have d2:=bu b2;by_cases b3:(bh s o.c).rp.er=0;case neg=>have d:=bu b3;simp only[SX,d1,Tc,d2,Tm,d,am];exact bad λm=>b3 m.2.2.1
 have d3:=aY b3;cases b4:o.e with
 |true=>simp only[SX,d1,Tc,d2,Tm,d3,aX,VP,b4,aK,am];exact bad λm=>by have:=m.2.2.2.1;rw[b4]at this;cases this
 |false=>
 by_cases b5:x.en.ga<0
 ·have d:=aY b5;simp only[SX,d1,Tc,d2,Tm,d3,aX,VP,b4,e3,d,aK,am];exact bad λm=>by have:=m.2.2.2.2.2.2.2.1;omega
 have d5:=bu b5;by_cases b6:8<=x.en.ga
 ·have d:=aY b6;simp only[SX,d1,Tc,d2,Tm,d3,aX,VP,b4,e3,d5,d,aK,am];exact bad λm=>by have:=m.2.2.2.2.2.2.2.2.1;omega
 have d6:=bu b6;by_cases b7:x.en.ti<0
 ·have d:=aY b7;simp only[SX,d1,Tc,d2,Tm,d3,aX,VP,b4,e3,d5,d6,e4,d,aK,am];exact bad λm=>by have:=m.2.2.2.2.2.2.2.2.2;omega
 have d7:=bu b7;have hm:AE (bh s o.c) o x.en:=⟨b1,by omega,b3,b4,a1,a2,a3,by omega,by omega,by omega⟩;have he:cL v s x=0:=by rw[hE,ax hm]
 simp only[SX,d1,Tc,d2,Tm,d3,aX,VP,b4,e3,d5,d6,e4,d7,aK,sB,am];refine⟨by rw[he],h7.le,by rw[AW.cG];omega,λ_=>⟨cv,bo,pb,?_⟩⟩;have er:pD s i x={s with of:=λw=>if w=x.wk then some ⟨o.c,o.s,true⟩else s.of w}:=by unfold pD;rw[bZ,ho];simp only[ay (show¬x.k=5 by omega),ax hk]
 rw[er];exact h7
end
abbrev Lj(v:cT)(sv ev:ae):List ae:=[.af v.sh,.af v.sU,.af v.sF,sv,ev]
abbrev BS(v:cT)(sv ev:ae):ae:=.agg (Lj v sv ev).toArray
def VC(v:cT)(sv ev:ae)(W:AW):cC (BS v sv ev) W=some (cp W.next,W.add (.cells (Lj v sv ev))):=iR _
structure O5 (W:AW) (v:cT) (sv ev:ae) (l:List eg):Prop where
 az:eX W sv v.az
 small:v.az.length<1000
 rows:∀s∈v.az,s.rows.length<1000
 WM:KJ W ev l
def O5.mono{W W':AW}{v:cT}{sv ev:ae}{l:List eg}(h:O5 W v sv ev l)(bi:Le W W'):O5 W' v sv ev l:=⟨h.az.mono bi,h.small,h.rows,h.WM.mono bi⟩
def ahA(W:AW):mP Tryz.prog 91 none W=some (.map (some W.next),W.add (.map [] 0)):=rfl
def agz(W:AW):mP Tryz.prog 92 none W=some (.map (some W.next),W.add (.map [] 0)):=rfl
def I7:fQ.all Eng.one=true:=rfl
def VA(W:AW):bc Tryz.prog 110 W=some (cp W.next,W.add (.cells [.nilFunc,.nilFunc,.nilFunc,.nilFunc,.nilFunc,.nilFunc,.nilFunc])):=aH (by kernel_rfl) rfl
def adt(W:AW):bH Tryz.prog 110 [(0,.nilFunc),(1,.func (.func 48) #[] #[]),(2,.func (.func 49) #[] #[]),(3,.func (.func 50) #[] #[]),(4,.func (.func 51) #[] #[]),(5,.func (.func 52) #[] #[]),(6,.func (.func 53) #[] #[])] W=some (.agg fQ.toArray,W):=aH (by kernel_rfl) rfl
def abg(x:ae)(W:AW):iH Tryz.prog 110 x W=bA 7 x W:=by kernel_rfl
def agT(v:cT)(sv ev:ae)(a b:Nat)(W:AW):bH Tryz.prog 94 [(0,BS v sv ev),(2,.map (some a)),(3,.map (some b)),(5,.af (-1))] W=some (.agg (Cr v sv ev (.slice none 0 0) a b 0 (-1) 0).toArray,W):=aH (by kernel_rfl) rfl
def WE(W:AW):bU 7 (cp W.next) (.agg fQ.toArray) (W.add (.cells [.nilFunc,.nilFunc,.nilFunc,.nilFunc,.nilFunc,.nilFunc,.nilFunc]))=some (ag,W.add (.cells fQ)):=by have:=tJ (n:=7) (vs:=fQ.toArray) (AW.a8 W (.cells [.nilFunc,.nilFunc,.nilFunc,.nilFunc,.nilFunc,.nilFunc,.nilFunc])) rfl rfl I7;rwa [im]at this
def PM(W:AW):bl (.func (.func 34) #[] #[]) [] W=some (.agg fQ.toArray,W.add (.cells fQ)):=by
 have h:pG bl W=some (.agg fQ.toArray,W.add (.cells fQ)):=by unfold pG;have g:(W.add (.cells fQ)).get W.next=some (.cells fQ):=AW.a8 _ _;have l7:bA 7 (cp W.next) (W.add (.cells fQ))=some (.agg fQ.toArray,W.add (.cells fQ)):=fy (bm g) rfl;simp only[SX,VA,adt,WE,LJ,abg,l7,bq]
 have h2:=yY h;rw[h2];unfold gc;rw[ay (by rintro⟨e,-⟩;have e2:(bI (Value.agg fQ.toArray)&& !Y3 (Value.agg fQ.toArray))=true:=e;rw[show bI (Value.agg fQ.toArray)=false from rfl,jB]at e2;cases e2)]
section
variable {V U:AW} {v:cT} {sv ev cv:ae} {s:RS} {l:List eg} {i:Nat} {bo:Option Nat} {pb:Int->Nat} {x:eg}
def Us(hG:GW V)(h:gL V U v sv ev s i cv bo pb)(hI:na s)(hs:eX V sv v.az)(hv:v.az.length<1000)(hk:1<=x.k/\x.k<=6)(hn:eF s x=0):
 ∃f U',(aJ (.pointer (some ⟨V.next+4,x.k.toNat,none⟩)) U=some (f,U))/\bl f [cp (V.next+2),BF x] U=some (.af (cL v s x),U')/\qu V U U' v sv ev s i x:=by
 by_cases c1:x.k=1
 ·obtain⟨U',k1,k2⟩:=Ow hG h hI c1;exact⟨_,U',by rw[c1];exact gH h.r rfl,k1,k2⟩
 unfold eF at hn;rw[ay c1]at hn;cases ho:s.of x.wk with
 |none=>rw[ho]at hn;exact absurd (show(4:Int)=0 from hn) (by decide)
 |some o=>
  rcases(by omega:x.k=2\/x.k=3\/x.k=4\/x.k=5\/x.k=6)with c|c|c|c|c
  ·obtain⟨U',k1,k2⟩:=To hG h hI ho hs hv c;exact⟨_,U',by rw[c];exact gH h.r rfl,k1,k2⟩
  ·obtain⟨U',k1,k2⟩:=M8 hG h hI ho hs hv c;exact⟨_,U',by rw[c];exact gH h.r rfl,k1,k2⟩
  ·obtain⟨U',k1,k2⟩:=UK hG h hI ho hs hv c;exact⟨_,U',by rw[c];exact gH h.r rfl,k1,k2⟩
  ·obtain⟨U',k1,k2⟩:=MO hG h hI ho hs hv c;exact⟨_,U',by rw[c];exact gH h.r rfl,k1,k2⟩
  ·obtain⟨U',k1,k2⟩:=Qd h hI ho c;exact⟨_,U',by rw[c];exact gH h.r rfl,k1,k2⟩
end
def na.tn{s:RS}(h:na s)(x:eg):na (vw s x):=⟨h.ids,h.of,h.len,h.wk,h.steps⟩
def GnA(W:AW)(v:cT)(sv ev:ae)(l:List eg)(q:ae)(W':AW):Prop:=∃a e:Int,uu v l a e/\Le W W'/\
 ((e≠0/\q=.tuple #[.pointer none,.af a,.af e])\/(e=0/\∃(s:RS) (V:AW) (cv:ae) (bo:Option Nat) (pb:Int->Nat) (t:Int),fk v l l.length s/\q=.tuple #[cp (V.next+2),.af 0,.af 0]/\Le W V/\gL V W' v sv ev s t cv bo pb))
section
variable {W V:AW} {v:cT} {sv ev:ae} {l:List eg} {ρ:Type}
def Gw{R:ak.Fr}{U:AW}{K:LT->Option ρ}{G:ρ->Prop}{cv0:ae}{bo0:Option Nat}{pb0:Int->Nat}(hG:GW V)(hr:KJ W ev l)(hz:Le W V)(hs:eX V sv v.az)(hv:v.az.length<1000)(hl:l.length<=2000)
 (h:gL V U v sv ev RS.init 0 cv0 bo0 pb0)(r7:R 7=cp (V.next+2))(r8:R 8=cp (V.next+4))(eN:R 35=ev)(eC:R 36=.af (l.length:Int))(ew:R 37=.af 0)
 (hK0:∀R' U' s cv bo pb t,fk v l l.length s->gL V U' v sv ev s t cv bo pb->R' 7=cp (V.next+2)->Ok (K (.exit 0,R',U')) G)
 (hK1:∀R' U' k s x,fk v l k s->l[k]? =some x->th v s x≠0->Le V U'->R' 2=.pointer none->R' 3=.af (k:Int)->R' 4=.af (th v s x)->Ok (K (.ret,R',U')) G):
 Ok (aj (du (jG bl) R U) K) G:=by
 refine cx l.length (by omega) (λi R U=>R 7=cp (V.next+2)/\R 8=cp (V.next+4)/\R 35=ev/\R 36=.af (l.length:Int)/\R 37=.af (i:Int)/\∃s cv bo pb t,fk v l i s/\gL V U v sv ev s t cv bo pb)
  (λr=>(r.1=.exit 0/\r.2.1 7=cp (V.next+2)/\∃s cv bo pb t,fk v l l.length s/\gL V r.2.2 v sv ev s t cv bo pb)\/(r.1=.ret/\Le V r.2.2/\∃k s x,fk v l k s/\l[k]? =some x/\th v s x≠0/\r.2.1 2=.pointer none/\r.2.1 3=.af (k:Int)/\r.2.1 4=.af (th v s x)))
  ⟨r7,r8,eN,eC,ew,_,_,_,_,_,.zero,h⟩ ?_ ?_ ?_
 ·rintro i R U hi ⟨r7,r8,eN,eC,ew,s,cv,bo,pb,t,eA,h⟩;unfold jG;have t1:decide ((i:Int)<(l.length:Int))=true:=pd;have t2:=λW'=>dP W' i 1
  have e3:((i+1:Nat):Int)=(i:Int)+1:=by omega
  obtain⟨p,p1,p2⟩:=hr.get hi;have hx:l[i]? =some l[i]:=dm hi;generalize l[i]=x at *;have hI:=eA.inv;have Th:=h.nx;obtain⟨U1,j7⟩:∃U1,U1=U.add (.cells (eY x)):=⟨_,rfl⟩;have l1:Le U U1:=by rw[j7];exact(Le.refl _).add _
  have n1:U1.next=U.next+1:=by rw[j7];rfl
  have hb:U1.get U.next=some (.cells (eY x)):=by rw[j7];exact AW.a8 _ _
  have pt:=Pk x U;rw[<-j7]at pt;have h1:=h.mono l1;have aeP:bU 1 (.pointer (some ⟨V.next+2,10,none⟩)) (.af (i:Int)) U1=some (ag,U1.put (V.next+2) (.cells (Cr v sv ev cv V.next (V.next+1) s.tn s.st i))):=by rw[qj,jg h1.w];rfl
  have h2:gL V (U1.put (V.next+2) (.cells (Cr v sv ev cv V.next (V.next+1) s.tn s.st i))) v sv ev s i cv bo pb:=h1.put s.tn s.st i;obtain⟨U2,ki⟩:∃U2,U2=U1.put (V.next+2) (.cells (Cr v sv ev cv V.next (V.next+1) s.tn s.st i)):=⟨_,rfl⟩;rw[<-ki]at aeP h2;have n2:U2.next=U1.next:=by rw[ki];rfl
  have iu:U2.get U.next=some (.cells (eY x)):=by rw[ki];exact(AW.aE _ _ (by omega)).trans hb
  obtain⟨U3,k1,k2,k3,k4,k5⟩:=Ir h2 hI x;have C1:U3.get U.next=some (.cells (eY x)):=(k4 _ (by omega) (by omega)).trans iu;have Vr:=Kw v s x;have hC:yB s x=if dM s x≠0 then dM s x else eF s x:=rfl
  simp only[SX,r7,eN,eC,ew,t1,p1,p2 _ (hz.trans h.le),XW,pt,aX,aK,aeP,kQ iu,k1];by_cases c1:yB s x=0;case neg=>
   have d1:=bu c1;have he:th v s x=yB s x:=by
    rw[Vr,hC];by_cases c:dM s x≠0
    ·rw[ax c,ax c]
    ·rw[ay c,ay c];have:eF s x≠0:=λe=>c1 (by rw[hC,ay c];exact e)
     rw[ax this]
   simp only[SX,d1];unfold gP;simp only[SX,d1,am];exact .inr ⟨by simp,.inr ⟨aB,k2,i,s,x,eA,hx,by rw[he];exact c1,rfl,rfl,by rw[he];rfl⟩⟩
  have d1:=aY c1;have hh:dM s x=0:=by
   by_cases c:dM s x=0
   ·exact c
   ·rw[hC,ax c]at c1;exact absurd c1 c
  have hn:eF s x=0:=by rw[hC,ay (by simpa using hh)]at c1;exact c1
  have he:th v s x=cL v s x:=by rw[Vr,ay (by simpa using hh),ay (by simpa using hn)]
  have hk:=(uh hh).1;obtain⟨f,U4,f1,f2,f3,f4,f5⟩:=Us hG (k5 hh) (hI.tn x) hs hv hk (by exact hn);rw[QW]at f2 f5;have ix:∀W',EI 7 1 (cp (V.next+4)) (.af x.k) W'=some (.pointer (some ⟨V.next+4,x.k.toNat,none⟩),W'):=λW'=>by have:=pN (len:=7) (z:=1) (b:=V.next+4) (o:=0) (i:=x.k.toNat) (k:=.i64) (W:=W') (by omega);rw[show((x.k.toNat:Nat):Int)=x.k by omega,aK,jR]at this;exact this
  simp only[SX,d1,qX C1,r8,ix,f1,kQ C1,f2];unfold gP;by_cases c2:cL v s x=0
  ·have d2:=aY c2;obtain⟨nG,bo',Ii,f6⟩:=f5 c2;simp only[SX,d2,t2,am];refine .inl ⟨aB,r7,r8,eN,eC,by rw[e3];rfl,_,nG,bo',Ii,i,.succ eA hx (by rw[he];exact c2),?_⟩;rw[RK hn];exact f6
  ·have d2:=bu c2;simp only[SX,d2,am];exact .inr ⟨by simp,.inr ⟨aB,f3,i,s,x,eA,hx,by rw[he];exact c2,rfl,rfl,by rw[he];rfl⟩⟩
 ·rintro R U ⟨r7,r8,eN,eC,ew,s,cv,bo,pb,t,eA,h⟩;unfold jG;have t1:decide ((l.length:Int)<(l.length:Int))=false:=fF;simp only[SX,eC,ew,t1,am];exact⟨by simp,.inl ⟨aB,r7,s,cv,bo,pb,t,eA,h⟩⟩
 ·rintro⟨e,R,U⟩ (⟨rfl,q7,s,cv,bo,pb,t,h1,h2⟩|⟨rfl,h0,k,s,x,h1,h2,h3,h4,h5,h6⟩)
  ·exact hK0 R U s cv bo pb t h1 h2 q7
  ·exact hK1 R U k s x h1 h2 h3 h0 h4 h5 h6
def KY(hG:GW W)(h:O5 W v sv ev l):∃q W',bl (.func (.func 24) #[] #[]) [BS v sv ev] W=some (q,W')/\GnA W v sv ev l q W':=by
 have kw:Ok (qW bl (BS v sv ev) W) λr=>GnA W v sv ev l r.1 r.2:=by
  unfold qW;obtain⟨V,hV⟩:∃V,V=W.add (.cells (Lj v sv ev)):=⟨_,rfl⟩;have bi:Le W V:=by rw[hV];exact(Le.refl _).add _
  have g0:V.get W.next=some (.cells (Lj v sv ev)):=by rw[hV];exact AW.a8 _ _
  have bx:=VC v sv ev W;rw[<-hV]at bx;have nV:V.next=W.next+1:=by rw[hV];rfl
  have l4:bA 4 (cp W.next) V=some (gW v sv,V):=fy (bm g0) rfl;have l5:bA 5 (cp W.next) V=some (BS v sv ev,V):=fy (bm g0) rfl;have M6:aJ (.pointer (some ⟨W.next,4,none⟩)) V=some (ev,V):=gH g0 rfl;have ck:=nD (h.az.mono bi) h.small;by_cases c1:(eR v).2=0;case neg=>have d1:=bu c1;simp only[SX,bx,aK,l4,ck,d1,am];exact⟨-1,_,.VV c1,bi,.inl ⟨c1,rfl⟩⟩
  have d1:=aY c1;have ln:∀W',aG Tryz.prog .len #[25] 3 #[false] [ev] W'=some (.af (l.length:Int),W'):=λW'=>Row.len h.WM FH W' 3 #[false]
  by_cases c2:2000<l.length
  ·have d2:decide ((2000:Int)<(l.length:Int))=true:=pd;simp only[SX,bx,aK,l4,ck,d1,M6,ln,d2,am];exact⟨-1,3,.len c1 c2,bi,.inl ⟨by decide,rfl⟩⟩
  have d2:decide ((2000:Int)<(l.length:Int))=false:=fF;obtain⟨U1,j7⟩:∃U1,U1=V.add (.map [] 0):=⟨_,rfl⟩;have n1:U1.next=V.next+1:=by rw[j7];rfl
  obtain⟨U2,ki⟩:∃U2,U2=U1.add (.map [] 0):=⟨_,rfl⟩;have n2:U2.next=V.next+2:=by rw[ki,AW.aL,n1]
  obtain⟨U3,CW⟩:∃U3,U3=U2.add (.cells (Cr v sv ev (.slice none 0 0) V.next (V.next+1) 0 (-1) 0)):=⟨_,rfl⟩;have n3:U3.next=V.next+3:=by rw[CW,AW.aL,n2]
  obtain⟨U4,Ub⟩:∃U4,U4=U3.add (.cells fQ):=⟨_,rfl⟩;have n4:U4.next=V.next+4:=by rw[Ub,AW.aL,n3]
  obtain⟨U5,Tb⟩:∃U5,U5=U4.add (.cells fQ):=⟨_,rfl⟩;have n5:U5.next=V.next+5:=by rw[Tb,AW.aL,n4]
  have q1:Le V U1:=by rw[j7];exact(Le.refl _).add _
  have q2:Le U1 U2:=by rw[ki];exact(Le.refl _).add _
  have q3:Le U2 U3:=by rw[CW];exact(Le.refl _).add _
  have q4:Le U3 U4:=by rw[Ub];exact(Le.refl _).add _
  have q5:Le U4 U5:=by rw[Tb];exact(Le.refl _).add _
  have m1:mP Tryz.prog 91 none V=some (.map (some V.next),U1):=by rw[ahA,j7]
  have m2:mP Tryz.prog 92 none U1=some (.map (some (V.next+1)),U2):=by rw[agz,ki,n1]
  have m3:cC (.agg (Cr v sv ev (.slice none 0 0) V.next (V.next+1) 0 (-1) 0).toArray) U2=some (cp (V.next+2),U3):=by rw[CW,<-n2];exact iR _
  have m4:=PM U3;rw[<-Ub]at m4;have m5:=VA U4;have m6:=WE U4;rw[<-Tb]at m6;rw[n4]at m5 m6;have M0:o8 U5 V.next (λk=>((RS.init).of k).map λ_=>cp 0) 0:=by
   have:o8 U1 V.next (λ_=>none) 0:=by rw[j7];exact Ht
   exact this.dK ((((q2.trans q3).trans q4).trans q5).get _ (by omega))
  have M1:o8 U5 (V.next+1) (λk=>((RS.init).lk k).map (Value.int .i64)) 0:=by
   have:o8 U2 (V.next+1) (λ_=>none) 0:=by rw[ki,<-n1];exact Ht
   exact this.dK (((q3.trans q4).trans q5).get _ (by omega))
  have h5:gL V U5 v sv ev RS.init 0 (.slice none 0 0) none (λ_=>0):=by refine⟨(((q1.trans q2).trans q3).trans q4).trans q5,by omega,?_,by rw[Tb,<-n4];exact AW.a8 _ _,.inl ⟨rfl,rfl,rfl⟩,⟨0,M0⟩,⟨0,M1⟩,λk o hk=>(by simp[RS.init]at hk),λB hB=>(by cases hB),λk k' o o' hk=>(by simp[RS.init]at hk)⟩;rw[(q4.trans q5).get _ (by omega),CW,<-n2];exact AW.a8 _ _
  have le5:aJ (.pointer (some ⟨V.next+2,4,none⟩)) U5=some (ev,U5):=gH h5.w rfl;simp only[SX,bx,aK,l4,ck,d1,M6,ln,d2,l5,m1,m2,agT,m3,m4,m5,m6,aX,le5];refine Gw (V:=V) (l:=l) (hG.mono bi) h.WM bi (h.az.mono bi) h.small (by omega) h5 rfl rfl rfl rfl rfl ?_ ?_
  ·intro R' U' s cv bo pb t eA hw q7;simp only[SX,q7,am];exact⟨0,0,.ok c1 (by omega) eA,bi.trans hw.le,.inr ⟨rfl,s,V,cv,bo,pb,t,eA,rfl,bi,hw⟩⟩
  ·intro R' U' k s x eA hx he hw q2 q3 q4;simp only[SX,q2,q3,q4,am];exact⟨k,_,.bad c1 (by omega) eA hx he,bi.trans hw,.inl ⟨he,rfl⟩⟩
 refine wb (Q:=λq W'=>GnA W v sv ev l q W') kw AZ (λq W' ⟨a,e,h1,h2,h3⟩ bi hp=>?_);rcases h3 with⟨he,rfl⟩|⟨rfl,s,V,cv,bo,pb,t,k1,rfl,k3,k4⟩
 ·exact⟨a,e,h1,.refl _,.inl ⟨he,rfl⟩⟩
 ·exfalso;simp[bI,fY,cJ]at hp
end
section
variable {W:AW} {v:cT} {sv ev:ae} {l:List eg}
def sf(v:cT)(sv ev:ae)(W:AW):∃V,cC (BS v sv ev) W=some (cp W.next,V)/\Le W V/\V.next=W.next+1/\V.get W.next=some (.cells (Lj v sv ev)):=
 ⟨_,VC v sv ev W,(Le.refl _).add _,rfl,AW.a8 _ _⟩
def jQ{U:AW}{b:Nat}(g:U.get b=some (.cells (Lj v sv ev))):bA 5 (cp b) U=some (BS v sv ev,U):=fy (bm g) rfl
def HS(hG:GW W)(h:O5 W v sv ev l):∃a e:Int,uu v l a e/\bl (.func (.func 8) #[] #[]) [BS v sv ev] W=some (.tuple #[.af a,.af e],W):=by
 obtain⟨V,bx,bi,nV,g0⟩:=sf v sv ev W;obtain⟨q,W',k1,a,e,hA,k2,k3⟩:=KY (hG.mono bi) (h.mono bi);refine⟨a,e,hA,bS rfl ?_ zr⟩;unfold vP;rcases k3 with⟨he,rfl⟩|⟨rfl,s,V',cv,bo,pb,t,eA,rfl,hz,hw⟩
 ·simp only[SX,bx,jQ g0,k1,am];exact⟨aB,bi.trans k2⟩
 ·obtain⟨rfl,-⟩:=hA.ago;simp only[SX,bx,jQ g0,k1,am];exact⟨aB,bi.trans k2⟩
def Gc(hG:GW W)(h:O5 W v sv ev l):∃(a e:Int) (u:ae) (W':AW),uu v l a e/\bl (.func (.func 10) #[] #[]) [BS v sv ev] W=some (.tuple #[u,.af e],W')/\Le W W'/\((e≠0/\u=.slice none 0 0)\/(e=0/\∃s,fk v l l.length s/\Jk W' u s.cl)):=by
 obtain⟨V,bx,bi,nV,g0⟩:=sf v sv ev W;obtain⟨q,W',k1,a,e,hA,k2,k3⟩:=KY (hG.mono bi) (h.mono bi);have kw:Ok (pE bl (BS v sv ev) W) λr=>∃u,r.1=.tuple #[u,.af e]/\Le W r.2/\((e≠0/\u=.slice none 0 0)\/(e=0/\∃s,fk v l l.length s/\Jk r.2 u s.cl)):=by
  unfold pE;rcases k3 with⟨he,rfl⟩|⟨rfl,s,V',cv,bo,pb,t,eA,rfl,hz,hw⟩
  ·have d:=bu he;simp only[SX,bx,jQ g0,k1,d,am];exact⟨_,rfl,bi.trans k2,.inl ⟨he,rfl⟩⟩
  ·have d:decide ((0:Int)=0)=true:=rfl;obtain⟨l5,-⟩:=hw.ld;simp only[SX,bx,jQ g0,k1,aX,aK,l5,am];exact⟨_,rfl,bi.trans k2,.inr ⟨aB,s,eA,hw.c.ZX.el.row cQ (xY cQ)⟩⟩
 obtain⟨q',W2,h1,u,rfl,h2,h3⟩:=wb (Q:=λq W'=>∃u,q=.tuple #[u,.af e]/\Le W W'/\((e≠0/\u=.slice none 0 0)\/(e=0/\∃s,fk v l l.length s/\Jk W' u s.cl))) kw zh
  (λq W' ⟨u,e1,a,b⟩ bi hp=>⟨u,e1,.refl _,by
    subst e1;rcases b with b|⟨h0,s,hr,hc⟩
    ·exact .inl b
    ·refine .inr ⟨h0,s,hr,?_⟩;obtain⟨a',c',rfl,hc⟩:=hc;refine⟨a',c',rfl,?_⟩;rcases hc with hc|⟨b0,o0,cs,rfl,-⟩
     ·exact .inl hc
     ·simp[bI,fY,cJ]at hp⟩)
 exact⟨a,e,u,W2,hA,h1,h2,h3⟩
end
abbrev bn:ae:=.slice none 0 0
def jT(o:Option dZ):List ae:=match o with
 |none=>[.af (-1),.af 0,.bool false]
 |some o=>[.af (o.c:Int),.af (o.s:Int),.bool o.e]
def eT(o:Option dZ):(jT o).length=3:=by cases o<;>rfl
def G3(o:Option dZ):(jT o).all Eng.one=true:=by cases o<;>rfl
def XK(f:Int->Option dZ):List ae:=(List.range 65).flatMap λ(w:Nat)=>jT (f w)
def vL(f:Int->Option dZ):(XK f).length=195:=by unfold XK;rw[cw (λw=>eT _),pP]
def UV(f:Int->Option dZ):(XK f).all Eng.one=true:=Bk (λw=>G3 _) _
def ez(v:cT)(sv ev cv:ae)(f:Int->Option dZ)(lv:ae)(tn st:Int):List ae:=Lj v sv ev++(cv::(XK f++[lv,.af tn,.af st]))
abbrev sy(v:cT)(sv ev cv:ae)(f:Int->Option dZ)(lv:ae)(tn st:Int):ae:=.agg (ez v sv ev cv f lv tn st).toArray
section
variable {v:cT} {sv ev cv lv:ae} {f g:Int->Option dZ} {tn st:Int} {W:AW} {b:Nat}
def dz:(ez v sv ev cv f lv tn st).length=204:=by simp only[ez,cm,dG,qo,vL]
def UL(h1:Eng.one sv=true)(h2:Eng.one ev=true)(h3:Eng.one cv=true)(h4:Eng.one lv=true):(ez v sv ev cv f lv tn st).all Eng.one=true:=by unfold ez;simp[List.all_append,eP,h1,h2,h3,h4,UV,pF]
def oL(w:Nat)(hw:w<65):∃pre post,pre.length=6+w*3/\ez v sv ev cv f lv tn st=pre++(jT (f w)++post)/\∀g:Int->Option dZ,(∀k:Nat,k≠w->g k=f k)->ez v sv ev cv g lv tn st=pre++(jT (g w)++post):=by
 have hr:List.range 65=List.range w++w::((List.range 65).drop (w+1)):=by
  have h1:(List.range 65).take w=List.range w:=by rw[List.take_range,nO (by omega)]
  have h2:= @List.getElem_cons_drop _ (List.range 65) w (by rw[pP];exact hw);rw[List.getElem_range]at h2;rw[<-h1,h2,xx]
 have acK:∀(l:List Nat) (g:Int->Option dZ),(∀k∈l,g (k:Int)=f k)->l.flatMap (λ(k:Nat)=>jT (g k))=l.flatMap (λ(k:Nat)=>jT (f k)):=λl g hg=>by rw[List.flatMap_def,List.flatMap_def];congr 1;exact List.map_congr_left λk hk=>by rw[hg k hk]
 generalize hq:(List.range 65).drop (w+1)=q at hr;have hqm:∀k∈q,k≠w:=λk hk=>by rw[<-hq]at hk;obtain⟨i,hi,rfl⟩:=vj hk;rw[List.getElem_drop,List.getElem_range];omega
 have key:∀g:Int->Option dZ,(∀k:Nat,k≠w->g k=f k)->XK g=(List.range w).flatMap (λ(k:Nat)=>jT (f k))++(jT (g w)++q.flatMap λ(k:Nat)=>jT (f k)):=λg hg=>by unfold XK;rw[hr,jO,hO,acK _ g λk hk=>hg k (by have:=nM.1 hk;omega),acK q g λk hk=>hg k (hqm k hk)]
 refine⟨Lj v sv ev++(cv::(List.range w).flatMap (λ(k:Nat)=>jT (f k))),q.flatMap (λ(k:Nat)=>jT (f k))++[lv,.af tn,.af st],?_,?_,λg hg=>?_⟩
 ·have e:((List.range w).flatMap (λ(k:Nat)=>jT (f k))).length=w*3:=by rw[cw (λ(k:Nat)=>eT _),pP]
  simp only[cm,dG,qo,e];omega
 ·unfold ez;rw[key f λ_ _=>rfl];simp only[ji,oy]
 ·unfold ez;rw[key g hg];simp only[ji,oy]
def YM(w:Nat)(hw:w<65)(j:Nat)(hj:j<3):(ez v sv ev cv f lv tn st)[6+w*3+j]? =(jT (f w))[j]? :=by obtain⟨pre,post,h1,h2,-⟩:=oL (v:=v) (sv:=sv) (ev:=ev) (cv:=cv) (f:=f) (lv:=lv) (tn:=tn) (st:=st) w hw;rw[h2,ig (by omega),uo (by rw[eT];omega)];congr 1;omega
def pm(j:Nat):(ez v sv ev cv f lv tn st)[201+j]? =[lv,Value.int .i64 tn,.af st][j]? :=by
 unfold ez;rw[ig (by show 5<=_;omega)];have:201+j-(Lj v sv ev).length=(195+j)+1:=by show 201+j-5=_;omega
 rw[this,BV,ig (by rw[vL];omega),vL];congr 1;omega
def EU(j:Nat)(x:ae):(ez v sv ev cv f lv tn st).set (201+j) x=Lj v sv ev++(cv::(XK f++[lv,Value.int .i64 tn,.af st].set j x)):=by
 unfold ez;rw[List.set_append_right _ _ (by show 5<=_;omega)];have:201+j-(Lj v sv ev).length=(195+j)+1:=by show 201+j-5=_;omega
 rw[this,z8,List.set_append_right _ _ (by rw[vL];omega),vL];congr 4;omega
def gU(h:W.get b=some (.cells (ez v sv ev cv f lv tn st))):bA 204 (cp b) W=some (sy v sv ev cv f lv tn st,W):=kP (bm h) dz
def Ty(h:W.get b=some (.cells (ez v sv ev cv f lv tn st))):bA 4 (cp b) W=some (gW v sv,W):=fy (bm h) rfl
def Kk(h:W.get b=some (.cells (ez v sv ev cv f lv tn st))):aJ (.pointer (some ⟨b,4,none⟩)) W=some (ev,W):=gH h rfl
def gf(h:W.get b=some (.cells (ez v sv ev cv f lv tn st))):aJ (.pointer (some ⟨b,5,none⟩)) W=some (cv,W):=gH h rfl
def AF(h:W.get b=some (.cells (ez v sv ev cv f lv tn st))):aJ (.pointer (some ⟨b,201,none⟩)) W=some (lv,W):=gH h (pm 0)
def Yf(h:W.get b=some (.cells (ez v sv ev cv f lv tn st))):aJ (.pointer (some ⟨b,202,none⟩)) W=some (.af tn,W):=gH h (pm 1)
def Xx(h:W.get b=some (.cells (ez v sv ev cv f lv tn st))):aJ (.pointer (some ⟨b,203,none⟩)) W=some (.af st,W):=gH h (pm 2)
def Jt(h:W.get b=some (.cells (ez v sv ev cv f lv tn st))){w:Nat}(hw:w<65):bA 3 (.pointer (some ⟨b,6+w*3,none⟩)) W=some (.agg (jT (f w)).toArray,W):=by
 obtain⟨pre,post,h1,h2,-⟩:=oL (v:=v) (sv:=sv) (ev:=ev) (cv:=cv) (f:=f) (lv:=lv) (tn:=tn) (st:=st) w hw;have e:((ez v sv ev cv f lv tn st).drop (6+w*3)).take 3=jT (f w):=by rw[h2,<-h1,vn,<-eT (f w),ws]
 have:=fy (n:=3) (o:=6+w*3) (bm h) (by rw[e,eT]);rw[e]at this;exact this
def LS(h:W.get b=some (.cells (ez v sv ev cv f lv tn st))){w:Nat}(hw:w<65){j:Nat}{x:ae}(hj:j<3)(hx:(jT (f w))[j]? =some x):aJ (.pointer (some ⟨b,6+w*3+j,none⟩)) W=some (x,W):=gH h ((YM w hw j hj).trans hx)
def iU{cs:List ae}(h:W.get b=some (.cells cs))(hl:cs.length=204)(h1:Eng.one sv=true)(h2:Eng.one ev=true)(h3:Eng.one cv=true)(h4:Eng.one lv=true):bU 204 (cp b) (sy v sv ev cv f lv tn st) W=some (ag,W.put b (.cells (ez v sv ev cv f lv tn st))):=by have:=tJ (n:=204) (vs:=(ez v sv ev cv f lv tn st).toArray) h hl (by rw[pA];exact dz) (UL h1 h2 h3 h4);exact this
def Lz(h:W.get b=some (.cells (ez v sv ev cv f lv tn st))){x:ae}(h1:x.cells=#[x])(h2:Eng.one x=true):bU 1 (.pointer (some ⟨b,5,none⟩)) x W=some (ag,W.put b (.cells (ez v sv ev x f lv tn st))):=by rw[ip h1 h2,Fa h,bq,ax (by rw[dz];omega)];rfl
def Ky(h:W.get b=some (.cells (ez v sv ev cv f lv tn st))){x:ae}(h1:x.cells=#[x])(h2:Eng.one x=true):bU 1 (.pointer (some ⟨b,201,none⟩)) x W=some (ag,W.put b (.cells (ez v sv ev cv f x tn st))):=by rw[ip h1 h2,Fa h,bq,ax (by rw[dz];omega),EU 0 x];rfl
def UO(h:W.get b=some (.cells (ez v sv ev cv f lv tn st)))(n:Int):bU 1 (.pointer (some ⟨b,202,none⟩)) (.af n) W=some (ag,W.put b (.cells (ez v sv ev cv f lv n st))):=by rw[ip rfl rfl,Fa h,bq,ax (by rw[dz];omega),EU 1];rfl
def TY(h:W.get b=some (.cells (ez v sv ev cv f lv tn st)))(n:Int):bU 1 (.pointer (some ⟨b,203,none⟩)) (.af n) W=some (ag,W.put b (.cells (ez v sv ev cv f lv tn n))):=by rw[ip rfl rfl,Fa h,bq,ax (by rw[dz];omega),EU 2];rfl
def LI(h:W.get b=some (.cells (ez v sv ev cv f lv tn st))){w:Nat}(hw:w<65)(o:Option dZ):bU 3 (.pointer (some ⟨b,6+w*3,none⟩)) (.agg (jT o).toArray) W=some (ag,W.put b (.cells (ez v sv ev cv (λk=>if k=(w:Int)then o else f k) lv tn st))):=by
 obtain⟨pre,post,h1,h2,h3⟩:=oL (v:=v) (sv:=sv) (ev:=ev) (cv:=cv) (f:=f) (lv:=lv) (tn:=tn) (st:=st) w hw;have h4:=h3 (λk=>if k=(w:Int)then o else f k) (λk hk=>by rw[bZ]);rw[ax rfl]at h4;rw[h4];rw[h2]at h;have hs:(jT o).toArray.size=3:=by rw[pA];exact eT o
 rw[rR (n:=3) (v:=.agg (jT o).toArray) h (by show(jT o).toArray.size=3;exact hs) (by rw[cm,cm,eT];show 6+w*3+(jT o).length<=_;rw[eT];omega) (by show(jT o).toArray.toList.all _=true;exact G3 o)];have:=rm pre (jT (f w)) post (jT o) 0 (by rw[eT,eT];omega);rw[ce,Ia (by rw[eT,eT]),h1]at this;exact cI (λc=>some (ag,W.put b (.cells c))) this
end
def G5(v:cT)(c:Int)(h:1<=v.sh):0<=(dY v c).1/\(dY v c).1<v.sh+v.az.length:=by
 unfold dY;by_cases e:(tl v c).2.2=0
 ·obtain⟨-,h1,h2,-⟩:=pk e;rw[ax e];show 0<=v.sh+c/\v.sh+c<_;omega
 ·rw[ay e];show(0:Int)<=0/\(0:Int)<_;omega
def DW(v:cT)(c:Int)(h:1<=v.sh):0<=(fz v c).1/\(fz v c).1<v.sh+v.az.length:=by
 unfold fz;by_cases e:(eW v c).2=0
 ·rw[ax e];have h1:=Int.emod_nonneg c (show v.sh≠0 by omega);have h2:=zY c (show 0<v.sh by omega);show 0<=c % v.sh/\c % v.sh<_;omega
 ·rw[ay e];show(0:Int)<=0/\(0:Int)<_;omega
def Qh{v:cT}{o:pV}(hv:(eR v).2=0){k:Int}(h:k∈(cO v o).1):0<=k/\k<v.sh+v.az.length:=by
 have hs:=iW hv;unfold cO at h;rw[ax hv]at h;by_cases e:(i8 o).2.2=0;case neg=>rw[ay e]at h;cases h
 rw[ax e]at h;have h':k∈eZ v o.k (i8 o).1 (i8 o).2.1:=h;clear h;unfold eZ at h';split at h'
 ·obtain⟨i,hi,rfl⟩:=mC.1 h';have:=nM.1 hi;omega
 split at h'
 ·unfold gO at h';split at h'
  ·have hm:k∈tU v.sh (tl v (i8 o).2.1).1 (min (tl v (i8 o).2.1).2.1 v.sh).toNat:=(List.mergeSort_perm _ _).mem_iff.1 h';obtain⟨i,-,rfl⟩:=mC.1 hm;have h1:=Int.emod_nonneg ((tl v (i8 o).2.1).1+(i:Int)) (show v.sh≠0 by omega);have h2:=zY ((tl v (i8 o).2.1).1+(i:Int)) (show 0<v.sh by omega);omega
  ·cases h'
 split at h'
 ·split at h'
  ·simp only[df,List.not_mem_nil,or_false]at h';rcases h' with rfl|rfl
   ·exact DW v _ hs.1
   ·exact G5 v _ hs.1
  ·cases h'
 split at h'
 ·split at h'
  ·simp only[df,List.not_mem_nil,or_false]at h';subst h';exact DW v _ hs.1
  ·cases h'
 split at h'
 ·split at h'
  ·simp only[df,List.not_mem_nil,or_false]at h';subst h';exact G5 v _ hs.1
  ·cases h'
 ·cases h'
def H6{l:List Int}{i:Nat}(h:i<l.length):l.getD i 0∈l:=by rw[mS,dm h];exact gd _
def DL{v:cT}{o:pV}(hv:(eR v).2=0){i:Nat}{a k:Int}(h:iN v o i=((a,k),0))(ha:a=1\/a=3):0<=k/\k<v.sh+v.az.length:=by
 obtain⟨h1,h2⟩:=G8 h;unfold iN at h;rw[ax h2,ax ⟨by omega,by omega⟩]at h;simp only[nE,and_true,ot]at h;unfold eO at h;refine Qh hv (o:=o) ?_;split at h
 ·rename_i hi;simp only[nE]at h;rw[<-h.2];exact H6 hi
 split at h
 ·simp only[nE]at h;omega
 ·rename_i h3 h4;simp only[nE]at h;rw[<-h.2];exact H6 (by omega)
def fk.lks{v:cT}{l:List eg}{k:Nat}{s:RS}(h:fk v l k s):∀j id,s.lk j=some id->1<=id:=by
 induction h with
 |zero=>intro j id h;simp[RS.init]at h
 | @succ k s x eA hx he ih=>
  intro j id h;rw[Kw]at he;by_cases c1:dM s x=0;case neg=>rw[ax c1]at he;exact absurd he c1
  rw[ay (by simpa using c1)]at he;by_cases c2:eF s x=0;case neg=>rw[ax c2]at he;exact absurd he c2
  unfold Hj at h;by_cases k1:x.k=1
  ·simp only[ax k1]at h;exact ih j id h
  simp only[ay k1]at h;unfold eF at c2;rw[ay k1]at c2;cases ho:s.of x.wk with
  |none=>rw[ho]at h;exact ih j id h
  |some o=>
   rw[ho]at h c2;simp only at h c2;by_cases k5:x.k=5
   ·simp only[ax k5]at h;exact ih j id h
   simp only[ay k5]at h;by_cases k6:x.k=6
   ·simp only[ax k6]at h;exact ih j id h
   simp only[ay k6]at h;split at h
   ·split at h
    ·injection h with h;have hI:=eA.inv;have lm:=hI.of _ _ ho;have hid:=hI.ids o.c s.cl[o.c] (dm lm);by_cases e:(bh s o.c).id=x.id
     ·rw[nJ lm]at e;omega
     ·rw[ax e]at c2;exact absurd c2 (by decide)
    ·split at h
     ·cases h
     ·exact ih j id h
   ·exact ih j id h
def P3(x:eg):x=gB x<->((x.k=2\/x.k=4)\/x.lk=0)/\(x.k=1\/x.op=EP)/\(x.k=3\/x.rp=uM)/\(x.k=6\/x.en=Cu):=by
 rw[eg.kX];unfold gB;simp only[true_and];refine and_congr ?_ (and_congr ?_ (and_congr ?_ ?_))
 ·split
  ·rename_i h;exact⟨λ_=>.inl h,λ_=>rfl⟩
  ·rename_i h;exact⟨.inr,λe=>e.resolve_left h⟩
 ·split
  ·rename_i h;exact⟨λ_=>.inl h,λ_=>rfl⟩
  ·rename_i h;exact⟨.inr,λe=>e.resolve_left h⟩
 ·split
  ·rename_i h;exact⟨λ_=>.inl h,λ_=>rfl⟩
  ·rename_i h;exact⟨.inr,λe=>e.resolve_left h⟩
 ·split
  ·rename_i h;exact⟨λ_=>.inl h,λ_=>rfl⟩
  ·rename_i h;exact⟨.inr,λe=>e.resolve_left h⟩
open Classical in
def lK(x:eg):Int:=if x.k<1\/6<x.k then 2 else if x≠gB x then 2 else 0
open Classical in
def NF(x:eg)(W:AW):bl (.func (.func 57) #[] #[]) [BF x] W=some (.af (lK x),W):=by
 refine bS rfl ?_ zp;unfold vp;obtain⟨U,hU⟩:∃U,U=W.add (.cells (eY x)):=⟨_,rfl⟩;have bi:Le W U:=by rw[hU];exact(Le.refl _).add _
 have hb:U.get W.next=some (.cells (eY x)):=by rw[hU];exact AW.a8 _ _
 have bx:=tA x W;rw[<-hU]at bx;have lk:=qX hb;by_cases c1:x.k<1
 ·have d:=aY c1;simp only[SX,bx,lk,d,am];exact⟨by unfold lK;rw[ax (.inl c1)],bi⟩
 have d1:=bu c1;by_cases c2:6<x.k
 ·have d:=aY c2;simp only[SX,bx,lk,d1,d,am];exact⟨by unfold lK;rw[ax (.inr c2)],bi⟩
 have d2:=bu c2;have lo:=rL hb;have lr:=wQ hb;have ll:=rA hb;have lg:=EF hb;have hF:lK x=if x≠gB x then 2 else 0:=by unfold lK;rw[bZ]
 have bad:x≠gB x->(Value.int .i64 2=.af (lK x))/\Le W U:=λh=>⟨by rw[hF,ax h],bi⟩
 have hbi:=P3 x;have fin:∀e:Int,(e=if x≠gB x then 2 else 0)->(Value.int .i64 e=.af (lK x))/\Le W U:=λe he=>⟨by rw[hF,<-he],bi⟩
 rcases(by omega:x.k=1\/x.k=2\/x.k=3\/x.k=4\/x.k=5\/x.k=6)with h|h|h|h|h|h<;>rw[h]at lk<;>
  by_cases p1:x.op=EP<;>by_cases p2:x.lk=0<;>by_cases p3:x.rp=uM<;>by_cases p4:x.en=Cu<;>
  simp only[SX,bx,lk,wu2,Int.reduceLT,Int.reduceEq,aK,lo,ab1,abV,ll,lr,abU,acs,lg,afa,afb,p1,p2,p3,p4,am]<;>
  refine fin _ ?_<;>simp[hbi,h,p1,p2,p3,p4]
def Q1(x:eg)(W:AW):bl (.func (.func 58) #[] #[]) [BF x] W=some (.bool (oE x),W):=by
 refine bS rfl ?_ Fm;unfold DJ;obtain⟨U,hU⟩:∃U,U=W.add (.cells (eY x)):=⟨_,rfl⟩;have bi:Le W U:=by rw[hU];exact(Le.refl _).add _
 have hb:U.get W.next=some (.cells (eY x)):=by rw[hU];exact AW.a8 _ _
 have bx:=tA x W;rw[<-hU]at bx;have lk:=qX hb;unfold oE;by_cases c1:2<=x.k
 ·have d1:=aY c1;simp only[SX,bx,lk,d1,je,am];exact⟨aB,bi⟩
 ·have d1:=bu c1;simp only[SX,bx,lk,d1,jB,am];exact⟨aB,bi⟩
def row_one{α:Type}{W:AW}{z:Nat}{at_:List ae->Nat->α->Prop}{v:ae}{l:List α}(h:Row W z at_ v l):Eng.one v=true:=by
 obtain⟨a,c,rfl,h⟩:=h;rcases h with h|⟨b,o,cs,rfl,-⟩
 ·cases a<;>rfl
 ·rfl
def BM{α:Type}{W:AW}{z:Nat}{f:α->List ae}{v:ae}{l:List α}(hf:∀a,(f a).length=z)(h:Rd W z f v l):Row W z (pM z f) v l:=by
 obtain⟨a,c,rfl,h⟩:=h;refine⟨a,c,rfl,?_⟩;rcases h with h|⟨b,o,cs,rfl,h2,h3,h4⟩
 ·exact .inl h
 ·refine .inr ⟨b,o,cs,rfl,h2,h3,λi hi=>?_⟩;show(cs.drop (o+i*z)).take z=f l[i];have e1:((cs.drop o).take (l.length*z)).drop (i*z)=(l.drop i).flatMap f:=by rw[h4,MZ hf]
  rw[List.drop_take,sC]at e1;have e2:(l.drop i).flatMap f=f l[i]++(l.drop (i+1)).flatMap f:=by rw[rC hi,hO]
  have e3:=cI (List.take z) e1;have hz:z<=l.length*z-i*z:=by rw[<-Nat.sub_mul];exact Nat.le_mul_of_pos_left z (by omega)
  rw[uS,nO hz,e2,<-hf l[i],ws]at e3;rw[hf]at e3;exact e3
def DV(s:RS)(n:Nat):List Int:=(List.range n).map λ(k:Nat)=>(s.lk k).getD 0
def qn(s:RS)(n:Nat):(DV s n).length=n:=by simp[DV]
def oH(v:cT):Nat:=(v.sh+v.az.length).toNat
structure JC (U:AW) (v:cT) (s:RS) (cv lv:ae):Prop where
 c:Rd U 26 fG cv s.cl
 l:Rd U 1 ka lv (DV s (oH v))
def JC.mono{U U':AW}{v:cT}{s:RS}{cv lv:ae}(h:JC U v s cv lv)(bi:Le U U'):JC U' v s cv lv:=⟨h.c.dK bi,h.l.dK bi⟩
def eJ{α:Type}{W:AW}{z:Nat}{f:α->List ae}{v:ae}{l:List α}(h:Rd W z f v l):v.cells=#[v]/\Eng.one v=true:=by
 obtain⟨a,c,rfl,h⟩:=h;rcases h with h|⟨b,o,cs,rfl,-⟩
 ·cases a<;>exact⟨rfl,rfl⟩
 ·exact⟨rfl,rfl⟩
def zf:Int->Option dZ:=λ_=>some ⟨0,0,false⟩
def lA:cT:=⟨0,0,0,[]⟩
def G7(W:AW):bc Tryz.prog 88 W=some (cp W.next,W.add (.cells (ez lA bn bn bn zf bn 0 0))):=aH (by kernel_rfl) rfl
def agf(v:cT)(sv ev:ae)(W:AW):bH Tryz.prog 88 [(0,BS v sv ev),(5,.af (-1))] W=some (sy v sv ev bn zf bn 0 (-1),W):=aH (by kernel_rfl) rfl
def QU(W:AW):bH Tryz.prog 88 [] W=some (sy lA bn bn bn zf bn 0 0,W):=aH (by kernel_rfl) rfl
def MF(x:ae)(W:AW):iH Tryz.prog 88 x W=bA 204 x W:=by kernel_rfl
def b64:(Tryz.prog.info? 3).map (·.bytes)=some 8:=by kernel_rfl
def t64:kv Tryz.prog 3=some 1:=by kernel_rfl
def LA(n:Nat):yX [.af 0] n=List.replicate n (.af 0):=by
 induction n with
 |zero=>rfl
 |succ n ih=>show [Value.int .i64 0]++yX [.af 0] n=_;rw[ih,List.replicate_succ];rfl
def aiA{n:Nat}(h:n<=10000)(W:AW):mO Tryz.prog 64 (.af (n:Int)) (.af (n:Int)) W=some (.slice (some ⟨W.next,0,none⟩) n n,W.add (.cells (List.replicate n (.af 0)))):=by
 show mO Tryz.prog 64 (.af (Int.ofNat n)) (.af (Int.ofNat n)) W=_;unfold mO;have e:=H2 (z:=.af 0) (len:=n) (n:=1) rfl;have e2:(iL (.af 0) (n*1)).toList=List.replicate n (.af 0):=by rw[e];exact LA n
 have e3:(List.replicate n (Value.int .i64 0)).all cJ=true:=by rw[<-LA];exact Bc _ _ rfl n
 simp only[Tryz.underlying64,t64,tz3,b64];rw[e2,ax ⟨aS _,by omega,by omega,e3⟩]
def qS(l:List Int):l.flatMap ka=l.map (Value.int .i64):=by
 induction l with
 |nil=>rfl
 |cons a l ih=>rw[hO,i6,ih];rfl
section
variable {W:AW} {v:cT} {sv ev:ae} {l:List eg}
def Qn(hs:eX W sv v.az)(h2:Eng.one ev=true)(hv:v.az.length<1000)(Kx:1<=v.sh/\v.sh<=16):∃lv W',bl (.func (.func 37) #[] #[]) [BS v sv ev] W=some (sy v sv ev bn (RS.init).of lv 0 (-1),W')/\Le W W'/\JC W' v RS.init bn lv/\∀a k m,lv=.slice (some a) k m->W.next<=a.block:=by
 have h1:Eng.one sv=true:=row_one hs.1;have kw:Ok (qZ bl (BS v sv ev) W) λr=>∃lv,r.1=sy v sv ev bn (RS.init).of lv 0 (-1)/\Le W r.2/\JC r.2 v RS.init bn lv/\∀a k m,lv=.slice (some a) k m->W.next<=a.block:=by
  unfold qZ;obtain⟨V,bx,bi,nV,g0⟩:=sf v sv ev W;obtain⟨V1,C2⟩:∃V1,V1=V.add (.cells (ez lA bn bn bn zf bn 0 0)):=⟨_,rfl⟩;have l1:Le V V1:=by rw[C2];exact(Le.refl _).add _
  have n1:V1.next=V.next+1:=by rw[C2];rfl
  have g1:V1.get V.next=some (.cells (ez lA bn bn bn zf bn 0 0)):=by rw[C2];exact AW.a8 _ _
  have a1:=G7 V;rw[<-C2]at a1;have g01:V1.get W.next=some (.cells (Lj v sv ev)):=(l1.get _ (by omega)).trans g0;obtain⟨V2,CE⟩:∃V2,V2=V1.add (.cells (ez v sv ev bn zf bn 0 (-1))):=⟨_,rfl⟩;have n2:V2.next=V1.next+1:=by rw[CE];rfl
  have l2:Le V1 V2:=by rw[CE];exact(Le.refl _).add _
  have a2:=G7 V1;have p2:bU 204 (cp V1.next) (sy v sv ev bn zf bn 0 (-1)) (V1.add (.cells (ez lA bn bn bn zf bn 0 0)))=some (ag,V2):=by have:=iU (sv:=sv) (v:=v) (ev:=ev) (cv:=bn) (lv:=bn) (f:=zf) (tn:=0) (st:= -1) (AW.a8 V1 (.cells (ez lA bn bn bn zf bn 0 0))) dz h1 h2 rfl rfl;rw[this,im,<-CE]
  have g2:V2.get V1.next=some (.cells (ez v sv ev bn zf bn 0 (-1))):=by rw[CE];exact AW.a8 _ _
  simp only[SX,bx,a1,jQ g01,agf,a2,p2];refine cx 65 (by omega) (λi R U=>R 1=cp W.next/\R 2=cp V.next/\R 3=cp V1.next/\R 4=.af (i:Int)/\Le V1 U/\V2.next<=U.next/\U.get V1.next=some (.cells (ez v sv ev bn (λw=>if 0<=w/\w<(i:Int)then none else some ⟨0,0,false⟩) bn 0 (-1))))
   (λr=>r.1=.exit 0/\r.2.1 1=cp W.next/\r.2.1 2=cp V.next/\r.2.1 3=cp V1.next/\Le V1 r.2.2/\V2.next<=r.2.2.next/\r.2.2.get V1.next=some (.cells (ez v sv ev bn (λw=>if 0<=w/\w<(65:Int)then none else some ⟨0,0,false⟩) bn 0 (-1))))
   ⟨rfl,rfl,rfl,rfl,l2,aS _,?_⟩ ?_ ?_ ?_
  ·have e:(λw:Int=>if 0<=w/\w<((0:Nat):Int)then(none:Option dZ)else some ⟨0,0,false⟩)=zf:=by funext w;rw[bZ];rfl
   rw[e];exact g2
  ·rintro i R U hi ⟨r1,r2,r3,r4,r5,r6,r7⟩;unfold mJ;have t1:decide ((i:Int)<65)=true:=pd;have t2:=λW'=>dP W' i 1
   have e3:((i+1:Nat):Int)=(i:Int)+1:=by omega
   have ix:=λW'=>pN (len:=65) (z:=3) (b:=V1.next) (o:=6) (i:=i) (k:=.i64) (W:=W') (by omega)
   have st:bU 1 (.pointer (some ⟨V1.next,6+i*3,none⟩)) (.af (-1)) U=some (ag,U.put V1.next (.cells (ez v sv ev bn (λw=>if 0<=w/\w<((i+1:Nat):Int)then none else some ⟨0,0,false⟩) bn 0 (-1)))):=by
    obtain⟨pre,post,q1,q2,q3⟩:=oL (v:=v) (sv:=sv) (ev:=ev) (cv:=bn) (f:=λw=>if 0<=w/\w<(i:Int)then none else some ⟨0,0,false⟩) (lv:=bn) (tn:=0) (st:= -1) i hi;have q4:=q3 (λw=>if 0<=w/\w<((i+1:Nat):Int)then none else some ⟨0,0,false⟩) (λk hk=>by
     by_cases e:k<i
     ·rw[nj,nj]
     ·rw[bZ,bZ]);rw[nj]at q4;rw[bZ]at q2;rw[q4];rw[q2]at r7;have q5:=rR (n:=1) (o:=6+i*3) (v:=.af (-1)) r7 rfl (by rw[cm,cm,eT];show 6+i*3+1<=_;omega) rfl;rw[q5];have q6:=rm pre (jT (some ⟨0,0,false⟩)) post [.af (-1)] 0 (by rw[eT];show 0+1<=3;omega);rw[ce,q1]at q6;exact cI (λc=>some (ag,U.put V1.next (.cells c))) q6
   simp only[SX,r3,r4,t1,aK,ce,ix,st,t2,am];exact .inl ⟨aB,r1,r2,r3,by rw[e3];rfl,r5.put (aS _) _,by rw[AW.cG];exact r6,AW.bE _ _ _⟩
  ·rintro R U ⟨r1,r2,r3,r4,r5,r6,r7⟩;unfold mJ;have t1:decide (((65:Nat):Int)<65)=false:=fF;simp only[SX,r4,t1,am];exact⟨by simp,aB,r1,r2,r3,r5,r6,r7⟩
  ·rintro⟨e,R,U⟩ ⟨rfl,r1,r2,r3,r5,r6,r7⟩;have r1:R 1=cp W.next:=r1;have r2:R 2=cp V.next:=r2;have r3:R 3=cp V1.next:=r3;have r5:Le V1 U:=r5;have r6:V2.next<=U.next:=r6;have gr:U.get W.next=some (.cells (Lj v sv ev)):=(r5.get _ (by omega)).trans g01;have gz:U.get V.next=some (.cells (ez lA bn bn bn zf bn 0 0)):=(r5.get _ (by omega)).trans g1;have lsh:aJ (cp W.next) U=some (.af v.sh,U):=gH gr rfl;have ah2:aJ (.pointer (some ⟨W.next,3,none⟩)) U=some (sv,U):=gH gr rfl;have ln:=λW'=>Row.len hs.1 LN W' 3 #[false]
   have ad:=λW'=>rq W' v.sh (v.az.length:Int)
   have en:v.sh+(v.az.length:Int)=((oH v:Nat):Int):=by unfold oH;omega
   have hn:oH v<=10000:=by unfold oH;omega
   obtain⟨U1,j7⟩:∃U1,U1=U.add (.cells (List.replicate (oH v) (.af 0))):=⟨_,rfl⟩;have mk:=aiA hn U;rw[<-j7]at mk;have lU:Le U U1:=by rw[j7];exact(Le.refl _).add _
   have nU:U1.next=U.next+1:=by rw[j7];rfl
   have gl:U1.get U.next=some (.cells (List.replicate (oH v) (.af 0))):=by rw[j7];exact AW.a8 _ _
   have r7':=(lU.get _ (by omega)).trans r7;have s1:=Ky r7' (x:=.slice (some ⟨U.next,0,none⟩) (oH v) (oH v)) rfl rfl;have ef:ez v sv ev bn (λw=>if 0<=w/\w<(65:Int)then none else some ⟨0,0,false⟩) (.slice (some ⟨U.next,0,none⟩) (oH v) (oH v)) 0 (-1)=ez v sv ev bn (RS.init).of (.slice (some ⟨U.next,0,none⟩) (oH v) (oH v)) 0 (-1):=by unfold ez;congr 3
   rw[ef]at s1;obtain⟨U2,ki⟩:∃U2,U2=U1.put V1.next (.cells (ez v sv ev bn (RS.init).of (.slice (some ⟨U.next,0,none⟩) (oH v) (oH v)) 0 (-1))):=⟨_,rfl⟩;rw[<-ki]at s1;have W9:U2.get V1.next=some (.cells (ez v sv ev bn (RS.init).of (.slice (some ⟨U.next,0,none⟩) (oH v) (oH v)) 0 (-1))):=by rw[ki];exact AW.bE _ _ _
   have gz2:U2.get V.next=some (.cells (ez lA bn bn bn zf bn 0 0)):=by rw[ki];exact(AW.aE _ _ (by omega)).trans ((lU.get _ (by omega)).trans gz)
   have s2:=iU (sv:=sv) (v:=v) (ev:=ev) (cv:=bn) (lv:=.slice (some ⟨U.next,0,none⟩) (oH v) (oH v)) (f:=(RS.init).of) (tn:=0) (st:= -1) gz2 dz h1 h2 rfl rfl;obtain⟨U3,CW⟩:∃U3,U3=U2.put V.next (.cells (ez v sv ev bn (RS.init).of (.slice (some ⟨U.next,0,none⟩) (oH v) (oH v)) 0 (-1))):=⟨_,rfl⟩;rw[<-CW]at s2;have g3:U3.get V.next=some (.cells (ez v sv ev bn (RS.init).of (.slice (some ⟨U.next,0,none⟩) (oH v) (oH v)) 0 (-1))):=by rw[CW];exact AW.bE _ _ _
   have gl3:U3.get U.next=some (.cells (List.replicate (oH v) (.af 0))):=by rw[CW,AW.aE _ _ (by omega),ki,AW.aE _ _ (by omega)];exact gl
   have n3:U3.next=U1.next:=by rw[CW,ki];rfl
   have lW:Le W U3:=by rw[CW,ki];exact(((bi.trans l1).trans (r5.trans lU)).put (by omega) _).put (by omega) _
   simp only[SX,r1,r2,r3,aK,lsh,ah2,ln,ad,en,mk,s1,gU W9,s2,LJ,MF,gU g3,bq,am];refine⟨_,rfl,lW,⟨⟨none,0,rfl,.inl rfl⟩,⟨_,_,by rw[qn],.inr ⟨U.next,0,_,rfl,by omega,bm gl3,?_⟩⟩⟩,λa k m e=>by
    injection e with e;injection e with e;rw[<-e];show W.next<=U.next;have:=bi.next;have:=r5.next;omega⟩;have e0:DV RS.init (oH v)=List.replicate (oH v) 0:=by
    unfold DV;rw[List.eq_replicate_iff];exact⟨by simp,λb hb=>by obtain⟨k,-,rfl⟩:=mC.1 hb;rfl⟩
   rw[e0,qS,List.map_replicate,jy,List.length_replicate,jR];exact oc (by simp)
 obtain⟨q,W',k1,lv,rfl,k2,k3⟩:=wb (Q:=λq W'=>∃lv,q=sy v sv ev bn (RS.init).of lv 0 (-1)/\Le W W'/\JC W' v RS.init bn lv/\∀a k m,lv=.slice (some a) k m->W.next<=a.block) kw BC
  (λq W' ⟨lv,e1,a,b,g⟩ bi hp=>⟨lv,e1,.refl _,by
    subst e1;have hlv:cJ lv=true:=by have MY:(ez v sv ev bn (RS.init).of lv 0 (-1)).all cJ=true:=hp;rw[cr]at MY;exact MY lv (oA (pm (v:=v) (sv:=sv) (ev:=ev) (cv:=bn) (f:=(RS.init).of) (lv:=lv) (tn:=0) (st:= -1) 0))
    refine⟨⟨none,0,rfl,.inl rfl⟩,?_⟩;obtain⟨a',c',rfl,hc⟩:=b.l;refine⟨a',c',rfl,?_⟩;rcases hc with hc|⟨b0,o0,cs,rfl,-⟩
    ·exact .inl hc
    ·simp[cJ]at hlv,g⟩)
 exact⟨lv,W',k1,k2,k3⟩
end
def OU(n:Nat)(c0 c:ae):Prop:=c=c0\/∀a k m,c=.slice (some a) k m->n<=a.block
def CM(W':AW)(n:Nat)(c0 l0:ae)(v:cT)(sv ev val:ae)(e:Int)(s':RS):Prop:=∃(cv lv:ae) (f:Int->Option dZ) (tn st:Int),val=sy v sv ev cv f lv tn st/\Eng.one cv=true/\Eng.one lv=true/\(e=0->f=s'.of/\tn=s'.tn/\st=s'.st/\JC W' v s' cv lv/\OU n c0 cv/\OU n l0 lv)
def sH{α:Type}{W W':AW}{z:Nat}{f:α->List ae}{v:ae}{l:List α}(h:Rd W z f v l)(hs:cJ v=true):Rd W' z f v l:=by
 obtain⟨a,c,rfl,h⟩:=h;refine⟨a,c,rfl,?_⟩;rcases h with h|⟨b,o,cs,rfl,-⟩
 ·exact .inl h
 ·simp[cJ]at hs
section
variable {W W' U:AW} {n:Nat} {c0 l0:ae} {v:cT} {sv ev cv lv val:ae} {s s':RS} {e:Int} {f:Int->Option dZ} {tn st:Int} {b1 b2:Nat}
def CM.bad(h0:e≠0)(h1:Eng.one cv=true)(h2:Eng.one lv=true):CM W' n c0 l0 v sv ev (sy v sv ev cv f lv tn st) e s':=⟨cv,lv,f,tn,st,rfl,h1,h2,λhe=>absurd he h0⟩
def SG{t o:Option (ae×AW)}(kw:Ok t λr=>∃val,r.1=.tuple #[val,.af e]/\Le W r.2/\CM r.2 n c0 l0 v sv ev val e s')(OT:∀{r},t=some r->o=some (gc W r)):∃val W',o=some (.tuple #[val,.af e],W')/\Le W W'/\CM W' n c0 l0 v sv ev val e s':=by
 obtain⟨q,W',k1,val,rfl,k2,k3⟩:=wb (Q:=λq W'=>∃val,q=.tuple #[val,.af e]/\Le W W'/\CM W' n c0 l0 v sv ev val e s') kw OT
  (λq W' ⟨val,e1,a,b⟩ bi hp=>⟨val,e1,.refl _,by
    subst e1;obtain⟨cv,lv,f,tn,st,rfl,h2,h3,h4⟩:=b;refine⟨cv,lv,f,tn,st,rfl,h2,h3,λhe=>?_⟩;obtain⟨q1,q2,q3,q4,q5⟩:=h4 he;have ZI:(ez v sv ev cv f lv tn st).all cJ=true:=by simp only[bI,eP,md,lO,bB,fY]at hp;exact hp.1
    rw[cr]at ZI;have hlv:=ZI lv (oA (pm (v:=v) (sv:=sv) (ev:=ev) (cv:=cv) (f:=f) (lv:=lv) (tn:=tn) (st:=st) 0));have VJ:=ZI cv (oA (i:=5) rfl);exact⟨q1,q2,q3,⟨sH q4.c VJ,sH q4.l hlv⟩,q5⟩⟩)
 exact⟨val,W',k1,k2,k3⟩
def F8{cs:List ae}(h1:Eng.one sv=true)(h2:Eng.one ev=true)(h3:Eng.one cv=true)(h4:Eng.one lv=true)(g1:U.get b1=some (.cells (ez v sv ev cv f lv tn st)))(g2:U.get b2=some (.cells cs))(hl:cs.length=204)(e:Int):
 ∃U',bA 204 (cp b1) U=some (sy v sv ev cv f lv tn st,U)/\bU 204 (cp b2) (sy v sv ev cv f lv tn st) U=some (ag,U')/\aD Tryz.prog [(cp b2,some 88),(.af e,none)] U'=some (.tuple #[sy v sv ev cv f lv tn st,.af e],U')/\U'.next=U.next/\∀d,d≠b2->U'.get d=U.get d:=by
 refine⟨_,gU g1,iU g2 hl h1 h2 h3 h4,?_,rfl,λd hd=>AW.aE _ _ (bL hd)⟩;rw[jv,MF,gU (AW.bE _ _ _)];rfl
def Ec(v:cT)(sv ev cv:ae)(f:Int->Option dZ)(lv:ae)(tn st:Int)(x:eg)(W:AW):∃V1 V2 V3,cC (sy v sv ev cv f lv tn st) W=some (cp W.next,V1)/\bc Tryz.prog 88 V1=some (cp (W.next+1),V2)/\Le W V2/\V2.next=W.next+2/\bc Tryz.prog 98 V2=some (cp (W.next+2),V2.add (.cells (eY rd0)))/\bU 31 (cp (W.next+2)) (BF x) (V2.add (.cells (eY rd0)))=some (ag,V3)/\Le V2 V3/\V3.next=W.next+3/\
 V2.get W.next=some (.cells (ez v sv ev cv f lv tn st))/\V3.get W.next=some (.cells (ez v sv ev cv f lv tn st))/\V3.get (W.next+1)=some (.cells (ez lA bn bn bn zf bn 0 0))/\V3.get (W.next+2)=some (.cells (eY x)):=by
 have a:=iR (W:=W) (ez v sv ev cv f lv tn st).toArray;obtain⟨V1,C2⟩:∃V1,V1=W.add (.cells (ez v sv ev cv f lv tn st)):=⟨_,rfl⟩;have n1:V1.next=W.next+1:=by rw[C2];rfl
 obtain⟨V2,CE⟩:∃V2,V2=V1.add (.cells (ez lA bn bn bn zf bn 0 0)):=⟨_,rfl⟩;have n2:V2.next=W.next+2:=by rw[CE,AW.aL,n1]
 obtain⟨V3,U9⟩:∃V3,V3=V2.add (.cells (eY x)):=⟨_,rfl⟩;have l1:Le W V1:=by rw[C2];exact(Le.refl _).add _
 have l2:Le V1 V2:=by rw[CE];exact(Le.refl _).add _
 have l3:Le V2 V3:=by rw[U9];exact(Le.refl _).add _
 have g1:V1.get W.next=some (.cells (ez v sv ev cv f lv tn st)):=by rw[C2];exact AW.a8 _ _
 have g2:V2.get (W.next+1)=some (.cells (ez lA bn bn bn zf bn 0 0)):=by rw[CE,<-n1];exact AW.a8 _ _
 have p:=Pk x V2;have a98:=XW V2;rw[n2]at p a98;refine⟨V1,V2,V3,by rw[C2];exact a,by rw[CE,<-n1];exact G7 V1,l1.trans l2,n2,a98,by rw[U9];exact p,l3,by rw[U9,AW.aL,n2],(l2.get _ (by omega)).trans g1,((l2.trans l3).get _ (by omega)).trans g1,(l3.get _ (by omega)).trans g2,by rw[U9,<-n2];exact AW.a8 _ _⟩
end
def Zk(o:Option dZ):∃c:Int,(jT o)[0]? =some (.af c)/\(o=none->c= -1)/\∀q,o=some q->c=(q.c:Int):=by
 cases o with
 |none=>exact⟨-1,rfl,λ_=>rfl,λq h=>by cases h⟩
 |some q=>exact⟨q.c,rfl,(λh=>by cases h),λq' h=>by injection h with h;rw[h]⟩
def Qy(W:AW):aC Tryz.prog 33 0 [] W=some (.slice (some ⟨W.next,0,none⟩) 0 0,W.add (.cells [])):=aH (by kernel_rfl) rfl
def aa3(n:Int)(W:AW):bH Tryz.prog 85 [(0,.af n)] W=some (.agg #[.af n,.af 0,.bool false],W):=aH (by kernel_rfl) rfl
def SC(k:IntKind)(n:Int):fX (.int k n) (.int k n)=true:=by simp[fX,sS]
def Zp(o:pV):fX (yb o) (yb o)=true:=oV (by unfold eQ;simp[Se,sS])
section
variable {W:AW} {v:cT} {sv ev cv lv:ae} {s:RS} {l:List eg} {i:Nat} {x:eg}
open Classical in
def I3(hr:KJ W ev l)(hx:l[i]? =some x)(h:JC W v s cv lv)(hI:na s)(h1:Eng.one sv=true)(hw:1<=x.wk/\x.wk<=64)(hk:x.k=1):
 ∃val W',bl (.func (.func 59) #[] #[]) [sy v sv ev cv s.of lv s.tn s.st,.af (i:Int)] W=some (.tuple #[val,.af (cL v s x)],W')/\Le W W'/\CM W' W.next cv lv v sv ev val (cL v s x) (pD s i x):=by
 have h2:Eng.one ev=true:=row_one hr;have h3:=(eJ h.c).2;have h4:=(eJ h.l).2;refine SG ?_ wV;unfold tQ;obtain⟨V1,V2,V3,k1,k2,k3,k4,k5,k6,k7,k8,k9,g0,g1,g2⟩:=Ec v sv ev cv s.of lv s.tn s.st x W;obtain⟨hi,Va⟩:=dV.1 hx;obtain⟨p,p1,p2⟩:=hr.get hi;rw[Va]at p2;have le:=Kk k9;have lw:=eK g2;obtain⟨w,zt⟩:∃w:Nat,x.wk=(w:Int):=⟨x.wk.toNat,by omega⟩;have ix:=λW'=>pN (len:=65) (z:=3) (b:=W.next) (o:=6) (i:=w) (k:=.i64) (W:=W') (by omega)
 rw[<-zt]at ix;obtain⟨c,c1,c2,c3⟩:=Zk (s.of x.wk);have lc:aJ (.pointer (some ⟨W.next,6+w*3,none⟩)) V3=some (.af c,V3):=by have:=LS (w:=w) g0 (by omega) (j:=0) (by omega) (x:=.af c) (by rw[<-zt];exact c1);exact this
 have hE:cL v s x=if(s.of x.wk).isSome=true then 8 else if s.cl.length=200 then 3 else if x.id≠(s.cl.length:Int)+1 then 6 else Wx x.op:=by unfold cL;rw[ax hk]
 have bad:∀{e:Int},cL v s x=e->e≠0->∃U',bA 204 (cp W.next) V3=some (sy v sv ev cv s.of lv s.tn s.st,V3)/\bU 204 (cp (W.next+1)) (sy v sv ev cv s.of lv s.tn s.st) V3=some (ag,U')/\aD Tryz.prog [(cp (W.next+1),some 88),(.af e,none)] U'=some (.tuple #[sy v sv ev cv s.of lv s.tn s.st,.af (cL v s x)],U')/\Le W U'/\CM U' W.next cv lv v sv ev (sy v sv ev cv s.of lv s.tn s.st) (cL v s x) (pD s i x):=λ{e} he h0=>by obtain⟨U',q1,q2,q3,q4,q5⟩:=F8 h1 h2 h3 h4 g0 g1 dz e;refine⟨U',q1,q2,by rw[he];exact q3,⟨by have:=k7.next;omega,λb hb=>(q5 b (by omega)).trans ((k7.get b (by omega)).trans (k3.get b hb))⟩,.bad (by rw[he];exact h0) h3 h4⟩
 have lcv:=gf g0;have ln:∀W',aG Tryz.prog .len #[33] 3 #[false] [cv] W'=some (.af (s.cl.length:Int),W'):=λW'=>Row.len (BM cQ h.c) Kz W' 3 #[false]
 by_cases e1:(s.of x.wk).isSome=true
 ·rw[ax e1]at hE;obtain⟨q,hq⟩:=EN.1 e1;have d1:decide (0<=c)=true:=aY (by rw[c3 q hq];omega);obtain⟨U',q1,q2,q3,q4,q5⟩:=bad hE (by decide);simp only[SX,k1,k2,aK,ce,le,p1,p2 _ k3,k5,k6,lw,ix,lc,d1,q1,q2,q3,am];exact⟨_,rfl,q4,q5⟩
 rw[ay e1]at hE;have d1:decide (0<=c)=false:=bu (by rw[c2 (by simpa using e1)];omega);have fb:=hI.len;by_cases e2:s.cl.length=200
 ·rw[ax e2]at hE;have d2:decide ((s.cl.length:Int)=200)=true:=pd;obtain⟨U',q1,q2,q3,q4,q5⟩:=bad hE (by decide);simp only[SX,k1,k2,aK,ce,le,p1,p2 _ k3,k5,k6,lw,ix,lc,d1,lcv,ln,d2,q1,q2,q3,am];exact⟨_,rfl,q4,q5⟩
 rw[ay e2]at hE;have d2:decide ((s.cl.length:Int)=200)=false:=fF;have ad:=λW'=>dP W' (s.cl.length:Int) 1
 have li:=fa g2;by_cases e3:x.id=(s.cl.length:Int)+1;case neg=>rw[ax e3]at hE;have d3:=bu e3;obtain⟨U',q1,q2,q3,q4,q5⟩:=bad hE (by decide);simp only[SX,k1,k2,aK,ce,le,p1,p2 _ k3,k5,k6,lw,ix,lc,d1,lcv,ln,d2,li,ad,d3,q1,q2,q3,am];exact⟨_,rfl,q4,q5⟩
 rw[ay (by simpa using e3)]at hE;have d3:=aY e3;have lo:=rL g2;have ck:=L8 x.op;by_cases e4:Wx x.op=0;case neg=>have d4:=bu e4;obtain⟨U',q1,q2,q3,q4,q5⟩:=bad hE e4;simp only[SX,k1,k2,aK,ce,le,p1,p2 _ k3,k5,k6,lw,ix,lc,d1,lcv,ln,d2,li,ad,d3,lo,ck,d4,q1,q2,q3,am];exact⟨_,rfl,q4,q5⟩
 rw[e4]at hE;have d4:=aY e4;obtain⟨f',hf'⟩:∃f':Int->Option dZ,f'=λk=>if k=(w:Int)then some ⟨s.cl.length,0,false⟩else s.of k:=⟨_,rfl⟩
 have so:=LI g0 (w:=w) (by omega) (some ⟨s.cl.length,0,false⟩);rw[<-hf']at so;obtain⟨V4,S7⟩:∃V4,V4=V3.put W.next (.cells (ez v sv ev cv f' lv s.tn s.st)):=⟨_,rfl⟩;rw[<-S7]at so;have so':bU 3 (.pointer (some ⟨W.next,6+w*3,none⟩)) (.agg #[.af (s.cl.length:Int),.af 0,.bool false]) V3=some (ag,V4):=so;have n4:V4.next=V3.next:=by rw[S7];rfl
 have g40:V4.get W.next=some (.cells (ez v sv ev cv f' lv s.tn s.st)):=by rw[S7];exact AW.bE _ _ _
 have o4:∀d,d≠W.next->V4.get d=V3.get d:=λd hd=>by rw[S7];exact AW.aE _ _ (bL hd)
 obtain⟨V5,OY⟩:∃V5,V5=V4.add (.cells []):=⟨_,rfl⟩;have l5:Le V4 V5:=by rw[OY];exact(Le.refl _).add _
 have n5:V5.next=V4.next+1:=by rw[OY];rfl
 have b5:=Qy V4;rw[<-OY]at b5;obtain⟨V6,TO⟩:∃V6,V6=V5.add (.cells (fG ⟨x.id,x.wk,x.op,uM,i,-1,-1⟩)):=⟨_,rfl⟩;have l6:Le V5 V6:=by rw[TO];exact(Le.refl _).add _
 have n6:V6.next=V5.next+1:=by rw[TO];rfl
 have b6:=abf ⟨x.id,x.wk,x.op,uM,i,-1,-1⟩ V5;rw[<-TO]at b6;have gy:V6.get V5.next=some (.cells (fG ⟨x.id,x.wk,x.op,uM,i,-1,-1⟩)):=by rw[TO];exact AW.a8 _ _
 have hW3:Le W V3:=k3.trans k7;have M6:Le W V4:=by rw[S7];exact hW3.put (aS _) _
 have le6:Le W V6:=(M6.trans l5).trans l6;have l46:=l5.trans l6;have hE0:EL V6.next V6 26 fG (.slice (some ⟨V4.next,0,none⟩) 0 0) []:=EL.Yk _ _ _ _ _;obtain⟨u1,V7,m1,m2,m3,m4⟩:=hE0.app TV cQ zZ (h.c.dK le6) (by simp;omega) (by simp;omega) (aS _);rw[lu]at m2;have gy7:V7.get V5.next=some (.cells (fG ⟨x.id,x.wk,x.op,uM,i,-1,-1⟩)):=(m4 _ (by omega)).trans gy;have ry:Rd V7 26 fG (.slice (some ⟨V5.next,0,none⟩) 1 1) [⟨x.id,x.wk,x.op,uM,i,-1,-1⟩]:=⟨_,_,rfl,.inr ⟨V5.next,0,_,rfl,by omega,bm gy7,rfl⟩⟩;obtain⟨u2,V8,m5,m6,m7,m8⟩:=m2.app TV cQ zZ ry (by simp;omega) (by simp;omega) m3;have g45:V5.get W.next=some (.cells (ez v sv ev cv f' lv s.tn s.st)):=(l5.get _ (by omega)).trans g40;have gx4:V4.get (W.next+2)=some (.cells (eY x)):=(o4 _ (by omega)).trans g2;have gx5:V5.get (W.next+2)=some (.cells (eY x)):=(l5.get _ (by omega)).trans gx4;have gx7:V7.get (W.next+2)=some (.cells (eY x)):=(m4 _ (by omega)).trans ((l6.get _ (by omega)).trans gx5);have g48:V8.get W.next=some (.cells (ez v sv ev cv f' lv s.tn s.st)):=(m8 _ (by omega)).trans ((m4 _ (by omega)).trans ((l46.get _ (by omega)).trans g40));have ug:=(eJ (m6.rd cQ));have sc:=Lz g48 ug.1 ug.2;obtain⟨V9,Oq⟩:∃V9,V9=V8.put W.next (.cells (ez v sv ev u2 f' lv s.tn s.st)):=⟨_,rfl⟩;rw[<-Oq]at sc;have n9:V9.next=V8.next:=by rw[Oq];rfl
 have g90:V9.get W.next=some (.cells (ez v sv ev u2 f' lv s.tn s.st)):=by rw[Oq];exact AW.bE _ _ _
 have o9:∀d,d≠W.next->V9.get d=V8.get d:=λd hd=>by rw[Oq];exact AW.aE _ _ (bL hd)
 have g91:V9.get (W.next+1)=some (.cells (ez lA bn bn bn zf bn 0 0)):=(o9 _ (by omega)).trans ((m8 _ (by omega)).trans ((m4 _ (by omega)).trans ((l46.get _ (by omega)).trans ((o4 _ (by omega)).trans g1))));obtain⟨U',q1,q2,q3,q4,q5⟩:=F8 h1 h2 ug.2 h4 g90 g91 dz 0;have lo5:=rL gx5;have lo7:=rL gx7;simp only[SX,k1,k2,aK,ce,le,p1,p2 _ k3,k5,k6,lw,ix,lc,d1,lcv,ln,d2,li,ad,d3,lo,ck,d4,aa3,so',b5,gf g45,fa gx5,eK gx5,lo5,abN,b6,m1,rE,lo7,eK gx7,fa gx7,Zp,SC,lO,m5,sc,q1,q2,q3,am];have leF:Le W U':=⟨by omega,λb hb=>(q5 b (by omega)).trans ((o9 b (by omega)).trans ((m8 b (by omega)).trans ((m4 b (by omega)).trans ((l46.get b (by omega)).trans (M6.get b hb)))))⟩;refine⟨_,by rw[hE],leF,u2,lv,f',s.tn,s.st,rfl,ug.2,h4,λ_=>?_⟩;have er:pD s i x={s with cl:=s.cl++[⟨x.id,x.wk,x.op,uM,i,-1,-1⟩],of:=λw=>if w=x.wk then some ⟨s.cl.length,0,false⟩else s.of w}:=by unfold pD;rw[ax hk]
 rw[er];refine⟨by rw[hf',zt],rfl,rfl,⟨?_,h.l.dK leF⟩,.inr λa k m e=>?_,.inl rfl⟩;rotate_left
 ·rcases m6 with⟨e0,-⟩|⟨-,B,c,z1,z2,z3,-⟩
  ·simp at e0
  ·rw[e]at z3;injection z3 with z3;injection z3 with z3;rw[z3];show W.next<=B;omega
 refine(m6.dK (W':=U') (by omega) λb hb iu=>?_).rd cQ;exact(q5 b (by omega)).trans (o9 b (by omega))
end
def SW{v:cT}{sv ev cv lv:ae}{f:Int->Option dZ}{tn st:Int}{W:AW}{b:Nat}(h:W.get b=some (.cells (ez v sv ev cv f lv tn st))){w:Nat}(hw:w<65){j:Nat}(hj:j<3){x:ae}(h1:x.cells=#[x])(h2:Eng.one x=true){o:dZ}(ho:jT (some o)=(jT (f w)).set j x):
 bU 1 (.pointer (some ⟨b,6+w*3+j,none⟩)) x W=some (ag,W.put b (.cells (ez v sv ev cv (λk=>if k=(w:Int)then some o else f k) lv tn st))):=by
 obtain⟨pre,post,q1,q2,q3⟩:=oL (v:=v) (sv:=sv) (ev:=ev) (cv:=cv) (f:=f) (lv:=lv) (tn:=tn) (st:=st) w hw;have q4:=q3 (λk=>if k=(w:Int)then some o else f k) (λk hk=>by rw[bZ]);rw[ax rfl]at q4;rw[ip h1 h2,Fa h,bq,ax (by rw[dz];omega),q4,q2,<-q1,List.set_append_right _ _ (by omega),wG,List.set_append_left _ _ (by rw[eT];omega),ho]
def aeh(W:AW):bc Tryz.prog 85 W=some (cp W.next,W.add (.cells [.af 0,.af 0,.bool false])):=aH (by kernel_rfl) rfl
def Jk.get{W:AW}{v:ae}{l:List oK}(h:Jk W v l){i:Nat}(hi:i<l.length):
 ∃b o,(∀W' k,iY 26 v (.int k (i:Int)) W'=some (.pointer (some ⟨b,o,none⟩),W'))/\∀W',W'.get b=W.get b->bA 26 (.pointer (some ⟨b,o,none⟩)) W'=some (OZ l[i],W')/\aJ (.pointer (some ⟨b,o,none⟩)) W'=some (.af l[i].id,W')/\bA 12 (.pointer (some ⟨b,o+2,none⟩)) W'=some (yb l[i].op,W')/\b<W.next:=by
 obtain⟨b,o,cs,h1,h2,h3,h4⟩:=h.elem hi;refine⟨b,o,h1,λW' hg=>?_⟩;have hc:aI W' b=some cs:=by
  have:aI W' b=aI W b:=by unfold aI;rw[hg]
  rw[this];exact h3
 have e0:(cs.drop o).take 26=fG l[i]:=h4;refine⟨?_,cU hc ((Jo h4 (j:=0) (by omega)).trans rfl),?_,h2⟩
 ·have:=fy (n:=26) (o:=o) hc (by rw[e0];rfl);rw[e0]at this;exact this
 ·have e2:(cs.drop (o+2)).take 12=((fG l[i]).drop 2).take 12:=by rw[<-e0,List.drop_take,sC,uS];rfl
  have:=fy (n:=12) (o:=o+2) hc (by rw[e2];rfl);rw[e2]at this;exact this
section
variable {W:AW} {v:cT} {sv ev cv lv:ae} {s:RS} {l:List eg} {i:Nat} {x:eg} {o:dZ}
open Classical in
def JU(hr:KJ W ev l)(hx:l[i]? =some x)(h:JC W v s cv lv)(hI:na s)(h1:Eng.one sv=true)(hw:1<=x.wk/\x.wk<=64)(hk:x.k=6)(ho:s.of x.wk=some o):
 ∃val W',bl (.func (.func 61) #[] #[]) [sy v sv ev cv s.of lv s.tn s.st,.af (i:Int)] W=some (.tuple #[val,.af (cL v s x)],W')/\Le W W'/\CM W' W.next cv lv v sv ev val (cL v s x) (pD s i x):=by
 have h2:Eng.one ev=true:=row_one hr;have h3:=(eJ h.c).2;have h4:=(eJ h.l).2;refine SG ?_ xu;unfold tF;obtain⟨V1,V2,V3,k1,k2,k3,k4,k5,k6,k7,k8,k9,g0,g1,g2⟩:=Ec v sv ev cv s.of lv s.tn s.st x W;obtain⟨hi,Va⟩:=dV.1 hx;obtain⟨p,p1,p2⟩:=hr.get hi;rw[Va]at p2;have le:=Kk k9;have lw:=eK g2;obtain⟨w,zt⟩:∃w:Nat,x.wk=(w:Int):=⟨x.wk.toNat,by omega⟩;have ix:=λW'=>pN (len:=65) (z:=3) (b:=W.next) (o:=6) (i:=w) (k:=.i64) (W:=W') (by omega)
 rw[<-zt]at ix;have l3:bA 3 (.pointer (some ⟨W.next,6+w*3,none⟩)) V3=some (.agg #[.af (o.c:Int),.af (o.s:Int),.bool o.e],V3):=by have:=Jt g0 (w:=w) (by omega);rw[<-zt,ho]at this;exact this
 have lm:=hI.of _ _ ho;have hE:cL v s x=if AE (bh s o.c) o x.en then 0 else 6:=by unfold cL;rw[bZ,ho];simp only[ay (show¬x.k=5 by omega),ax hk]
 have abA:Le W V3:=k3.trans k7;obtain⟨V4,S7⟩:∃V4,V4=V3.add (.cells [.af (o.c:Int),.af (o.s:Int),.bool o.e]):=⟨_,rfl⟩;have l4:Le V3 V4:=by rw[S7];exact(Le.refl _).add _
 have n4:V4.next=W.next+4:=by rw[S7,AW.aL,k8]
 have a4:=aeh V3;have s4:bU 3 (cp V3.next) (.agg #[.af (o.c:Int),.af (o.s:Int),.bool o.e]) (V3.add (.cells [.af 0,.af 0,.bool false]))=some (ag,V4):=by have:=tJ (n:=3) (vs:=#[.af (o.c:Int),.af (o.s:Int),.bool o.e]) (AW.a8 V3 (.cells [.af 0,.af 0,.bool false])) rfl rfl rfl;rw[im,]at this;rw[S7];exact this
 have g43:V4.get V3.next=some (.cells [.af (o.c:Int),.af (o.s:Int),.bool o.e]):=by rw[S7];exact AW.a8 _ _
 have g40:=(l4.get _ (by omega)).trans g0;have Ki:aJ (cp V3.next) V4=some (.af (o.c:Int),V4):=gH g43 rfl;obtain⟨B,oo,c1,c2⟩:=Jk.get (BM cQ (h.c.dK (abA.trans l4))) lm;obtain⟨c3,-,-,-⟩:=c2 V4 rfl;rw[<-nJ lm]at c3;obtain⟨V5,OY⟩:∃V5,V5=V4.add (.cells (fG (bh s o.c))):=⟨_,rfl⟩;have l5:Le V4 V5:=by rw[OY];exact(Le.refl _).add _
 have n5:V5.next=W.next+5:=by rw[OY,AW.aL,n4]
 have a5:=aaO V4;have s5:=Wh (bh s o.c) V4;rw[<-OY]at s5;have g54:V5.get V4.next=some (.cells (fG (bh s o.c))):=by rw[OY];exact AW.a8 _ _
 have ltk:bA 4 (.pointer (some ⟨V4.next,9,none⟩)) V5=some (.agg #[.int .u32 (bh s o.c).op.t1,.int .u32 (bh s o.c).op.t2,.int .u64 (bh s o.c).op.t3,.int .u64 (bh s o.c).op.t4],V5):=fy (bm g54) rfl;obtain⟨V6,TO⟩:∃V6,V6=V5.add (.cells [.int .u32 (bh s o.c).op.t1,.int .u32 (bh s o.c).op.t2,.int .u64 (bh s o.c).op.t3,.int .u64 (bh s o.c).op.t4]):=⟨_,rfl⟩;have l6:Le V5 V6:=by rw[TO];exact(Le.refl _).add _
 have n6:V6.next=W.next+6:=by rw[TO,AW.aL,n5]
 have a6:=ac1 V5;have s6:bU 4 (cp V5.next) (.agg #[.int .u32 (bh s o.c).op.t1,.int .u32 (bh s o.c).op.t2,.int .u64 (bh s o.c).op.t3,.int .u64 (bh s o.c).op.t4]) (V5.add (.cells [.int .u32 0,.int .u32 0,.int .u64 0,.int .u64 0]))=some (ag,V6):=by have:=tJ (n:=4) (vs:=#[.int .u32 (bh s o.c).op.t1,.int .u32 (bh s o.c).op.t2,.int .u64 (bh s o.c).op.t3,.int .u64 (bh s o.c).op.t4]) (AW.a8 V5 (.cells [.int .u32 0,.int .u32 0,.int .u64 0,.int .u64 0])) rfl rfl rfl;rw[im]at this;rw[TO];exact this
 have g65:V6.get V5.next=some (.cells [.int .u32 (bh s o.c).op.t1,.int .u32 (bh s o.c).op.t2,.int .u64 (bh s o.c).op.t3,.int .u64 (bh s o.c).op.t4]):=by rw[TO];exact AW.a8 _ _
 have l36:=(l4.trans l5).trans l6;have g6x:=(l36.get _ (by omega)).trans g2;have g60:=(l36.get _ (by omega)).trans g0;have g61:=(l36.get _ (by omega)).trans g1;have g63:=((l5.trans l6).get _ (by omega)).trans g43;have g64:=(l6.get _ (by omega)).trans g54;have le6:Le W V6:=abA.trans l36;have ck:aJ (.pointer (some ⟨V4.next,2,none⟩)) V6=some (.af (bh s o.c).op.k,V6):=gH g64 rfl;have S5:aJ (.pointer (some ⟨V4.next,24,none⟩)) V6=some (.af (bh s o.c).co,V6):=gH g64 rfl;have UU:aJ (.pointer (some ⟨V4.next,14,none⟩)) V6=some (.af (bh s o.c).rp.er,V6):=gH g64 rfl;have WH:aJ (.pointer (some ⟨V3.next,2,none⟩)) V6=some (.bool o.e,V6):=gH g63 rfl;have e0:aJ (.pointer (some ⟨W.next+2,26,none⟩)) V6=some (.int .u32 x.en.se,V6):=gH g6x rfl;have e1:aJ (.pointer (some ⟨W.next+2,27,none⟩)) V6=some (.int .u64 x.en.sr,V6):=gH g6x rfl;have e2:aJ (.pointer (some ⟨W.next+2,28,none⟩)) V6=some (.int .u64 x.en.ep,V6):=gH g6x rfl;have e3:aJ (.pointer (some ⟨W.next+2,29,none⟩)) V6=some (.af x.en.ga,V6):=gH g6x rfl;have e4:aJ (.pointer (some ⟨W.next+2,30,none⟩)) V6=some (.af x.en.ti,V6):=gH g6x rfl;have t0:aJ (cp V5.next) V6=some (.int .u32 (bh s o.c).op.t1,V6):=gH g65 rfl;have t2:aJ (.pointer (some ⟨V5.next,2,none⟩)) V6=some (.int .u64 (bh s o.c).op.t3,V6):=gH g65 rfl;have t3:aJ (.pointer (some ⟨V5.next,3,none⟩)) V6=some (.int .u64 (bh s o.c).op.t4,V6):=gH g65 rfl;have bad:¬AE (bh s o.c) o x.en->∃U',bA 204 (cp W.next) V6=some (sy v sv ev cv s.of lv s.tn s.st,V6)/\bU 204 (cp (W.next+1)) (sy v sv ev cv s.of lv s.tn s.st) V6=some (ag,U')/\aD Tryz.prog [(cp (W.next+1),some 88),(.af 6,none)] U'=some (.tuple #[sy v sv ev cv s.of lv s.tn s.st,.af (cL v s x)],U')/\Le W U'/\CM U' W.next cv lv v sv ev (sy v sv ev cv s.of lv s.tn s.st) (cL v s x) (pD s i x):=λhm=>by
  have he:cL v s x=6:=by rw[hE,ay hm]
  obtain⟨U',q1,q2,q3,q4,q5⟩:=F8 h1 h2 h3 h4 g60 g61 dz 6;refine⟨U',q1,q2,by rw[he];exact q3,⟨by omega,λb hb=>(q5 b (by omega)).trans (le6.get b hb)⟩,.bad (by rw[he];decide) h3 h4⟩
 simp only[SX,k1,k2,aK,ce,le,p1,p2 _ k3,k5,k6,lw,ix,l3,a4,s4,gf g40,Ki,c1,c3,a5,s5,ltk,a6,s6,ck];by_cases b1:(bh s o.c).op.k=9;case neg=>
  have d:=bu b1;obtain⟨U',q1,q2,q3,q4,q5⟩:=bad λm=>b1 m.1
  simp only[SX,d,q1,q2,q3,am];exact⟨_,rfl,q4,q5⟩
 have d1:=aY b1;by_cases b2:(bh s o.c).co<0
 ·have d:=aY b2;obtain⟨U',q1,q2,q3,q4,q5⟩:=bad λm=>by have:=m.2.1;omega
  simp only[SX,d1,S5,d,q1,q2,q3,am];exact⟨_,rfl,q4,q5⟩
 have d2:=bu b2;by_cases b3:(bh s o.c).rp.er=0;case neg=>
  have d:=bu b3;obtain⟨U',q1,q2,q3,q4,q5⟩:=bad λm=>b3 m.2.2.1
  simp only[SX,d1,S5,d2,UU,d,q1,q2,q3,am];exact⟨_,rfl,q4,q5⟩
 have d3:=aY b3;cases b4:o.e with
 |true=>
  obtain⟨U',q1,q2,q3,q4,q5⟩:=bad λm=>by have:=m.2.2.2.1;rw[b4]at this;cases this
  simp only[SX,d1,S5,d2,UU,d3,WH,b4,q1,q2,q3,am];exact⟨_,rfl,q4,q5⟩
 |false=>
 by_cases a1:x.en.se=(bh s o.c).op.t1;case neg=>
  have d:=bu a1;obtain⟨U',q1,q2,q3,q4,q5⟩:=bad λm=>a1 m.2.2.2.2.1
  simp only[SX,d1,S5,d2,UU,d3,WH,b4,e0,t0,d,q1,q2,q3,am];exact⟨_,rfl,q4,q5⟩
 have f1:=aY a1;by_cases a2:x.en.sr=(bh s o.c).op.t3;case neg=>
  have d:=bu a2;obtain⟨U',q1,q2,q3,q4,q5⟩:=bad λm=>a2 m.2.2.2.2.2.1
  simp only[SX,d1,S5,d2,UU,d3,WH,b4,e0,t0,f1,e1,t2,d,q1,q2,q3,am];exact⟨_,rfl,q4,q5⟩
 have f2:=aY a2;by_cases a3:x.en.ep=(bh s o.c).op.t4;case neg=>
  have d:=bu a3;obtain⟨U',q1,q2,q3,q4,q5⟩:=bad λm=>a3 m.2.2.2.2.2.2.1
  simp only[SX,d1,S5,d2,UU,d3,WH,b4,e0,t0,f1,e1,t2,f2,e2,t3,d,q1,q2,q3,am];exact⟨_,rfl,q4,q5⟩
 have f3:=aY a3;by_cases b5:x.en.ga<0
 ·have d:=aY b5;obtain⟨U',q1,q2,q3,q4,q5⟩:=bad λm=>by have:=m.2.2.2.2.2.2.2.1;omega
  simp only[SX,d1,S5,d2,UU,d3,WH,b4,e0,t0,f1,e1,t2,f2,e2,t3,f3,e3,d,q1,q2,q3,am];exact⟨_,rfl,q4,q5⟩
 have d5:=bu b5;by_cases b6:8<=x.en.ga
 ·have d:=aY b6;obtain⟨U',q1,q2,q3,q4,q5⟩:=bad λm=>by have:=m.2.2.2.2.2.2.2.2.1;omega
  simp only[SX,d1,S5,d2,UU,d3,WH,b4,e0,t0,f1,e1,t2,f2,e2,t3,f3,e3,d5,d,q1,q2,q3,am];exact⟨_,rfl,q4,q5⟩
 have d6:=bu b6;by_cases b7:x.en.ti<0
 ·have d:=aY b7;obtain⟨U',q1,q2,q3,q4,q5⟩:=bad λm=>by have:=m.2.2.2.2.2.2.2.2.2;omega
  simp only[SX,d1,S5,d2,UU,d3,WH,b4,e0,t0,f1,e1,t2,f2,e2,t3,f3,e3,d5,d6,e4,d,q1,q2,q3,am];exact⟨_,rfl,q4,q5⟩
 have d7:=bu b7;have hm:AE (bh s o.c) o x.en:=⟨b1,by omega,b3,b4,a1,a2,a3,by omega,by omega,by omega⟩;have he:cL v s x=0:=by rw[hE,ax hm]
 have lw6:=eK g6x;have so:=SW g60 (w:=w) (by omega) (j:=2) (by omega) (x:=.bool true) rfl rfl (o:=⟨o.c,o.s,true⟩) (by rw[<-zt,ho];rfl);obtain⟨f',hf'⟩:∃f':Int->Option dZ,f'=λk=>if k=(w:Int)then some ⟨o.c,o.s,true⟩else s.of k:=⟨_,rfl⟩
 rw[<-hf']at so;obtain⟨V7,Wr⟩:∃V7,V7=V6.put W.next (.cells (ez v sv ev cv f' lv s.tn s.st)):=⟨_,rfl⟩;rw[<-Wr]at so;have n7:V7.next=V6.next:=by rw[Wr];rfl
 have g70:V7.get W.next=some (.cells (ez v sv ev cv f' lv s.tn s.st)):=by rw[Wr];exact AW.bE _ _ _
 have o7:∀d,d≠W.next->V7.get d=V6.get d:=λd hd=>by rw[Wr];exact AW.aE _ _ (bL hd)
 have g71:=(o7 (W.next+1) (by omega)).trans g61;obtain⟨U',q1,q2,q3,q4,q5⟩:=F8 h1 h2 h3 h4 g70 g71 dz 0;simp only[SX,d1,S5,d2,UU,d3,WH,b4,e0,t0,f1,e1,t2,f2,e2,t3,f3,e3,d5,d6,e4,d7,lw6,ix,so,q1,q2,q3,am];have leF:Le W U':=⟨by omega,λb hb=>(q5 b (by omega)).trans ((o7 b (by omega)).trans (le6.get b hb))⟩;refine⟨_,by rw[he],leF,cv,lv,f',s.tn,s.st,rfl,h3,h4,λ_=>?_⟩;have er:pD s i x={s with of:=λw=>if w=x.wk then some ⟨o.c,o.s,true⟩else s.of w}:=by unfold pD;rw[bZ,ho];simp only[ay (show¬x.k=5 by omega),ax hk]
 rw[er];exact⟨by rw[hf',zt],rfl,rfl,⟨h.c.dK leF,h.l.dK leF⟩,.inl rfl,.inl rfl⟩
end
structure wM (W U:AW) (v:cT) (sv ev cv:ae) (f:Int->Option dZ) (lv:ae) (tn st:Int) (x:eg):Prop where
 le:Le W U
 nx:W.next+3<=U.next
 g0:U.get W.next=some (.cells (ez v sv ev cv f lv tn st))
 g1:U.get (W.next+1)=some (.cells (ez lA bn bn bn zf bn 0 0))
 g2:U.get (W.next+2)=some (.cells (eY x))
section
variable {W U U':AW} {v:cT} {sv ev cv lv:ae} {s:RS} {f f':Int->Option dZ} {tn st:Int} {i:Nat} {x:eg} {o:dZ}
def wM.mono(h:wM W U v sv ev cv f lv tn st x)(bi:Le U U'):wM W U' v sv ev cv f lv tn st x:=by have:=h.nx;exact⟨h.le.trans bi,by have:=bi.next;omega,(bi.get _ (by omega)).trans h.g0,(bi.get _ (by omega)).trans h.g1,(bi.get _ (by omega)).trans h.g2⟩
def wM.put(h:wM W U v sv ev cv f lv tn st x)(nG:ae)(f':Int->Option dZ)(Bi:ae)(Q6 I0:Int):wM W (U.put W.next (.cells (ez v sv ev nG f' Bi Q6 I0))) v sv ev nG f' Bi Q6 I0 x:=
 ⟨h.le.put (aS _) _,by rw[AW.cG];exact h.nx,AW.bE _ _ _,(AW.aE _ _ (by omega)).trans h.g1,(AW.aE _ _ (by omega)).trans h.g2⟩
def wM.Yg(h:wM W U v sv ev cv f lv tn st x)(hn:U.next<=U'.next)(hg:∀d,d<W.next+3->U'.get d=U.get d):wM W U' v sv ev cv f lv tn st x:=
 ⟨⟨by have:=h.le.next;omega,λd hd=>(hg d (by omega)).trans (h.le.get d hd)⟩,by have:=h.nx;omega,(hg _ (by omega)).trans h.g0,(hg _ (by omega)).trans h.g1,(hg _ (by omega)).trans h.g2⟩
def wM.fin(h:wM W U v sv ev cv f lv tn st x)(h1:Eng.one sv=true)(h2:Eng.one ev=true)(h3:Eng.one cv=true)(h4:Eng.one lv=true)(e:Int):
 ∃U',bA 204 (cp W.next) U=some (sy v sv ev cv f lv tn st,U)/\bU 204 (cp (W.next+1)) (sy v sv ev cv f lv tn st) U=some (ag,U')/\aD Tryz.prog [(cp (W.next+1),some 88),(.af e,none)] U'=some (.tuple #[sy v sv ev cv f lv tn st,.af e],U')/\Le W U'/\U'.next=U.next/\∀d,d≠W.next+1->U'.get d=U.get d:=by
 obtain⟨U',q1,q2,q3,q4,q5⟩:=F8 h1 h2 h3 h4 h.g0 h.g1 dz e;exact⟨U',q1,q2,q3,⟨by have:=h.le.next;omega,λd hd=>(q5 d (by omega)).trans (h.le.get d hd)⟩,q4,q5⟩
def nxO(h:wM W U v sv ev cv f lv tn st x)(c t:Int)(e:Bool):∃V,bc Tryz.prog 85 U=some (cp U.next,U.add (.cells [.af 0,.af 0,.bool false]))/\bU 3 (cp U.next) (.agg #[.af c,.af t,.bool e]) (U.add (.cells [.af 0,.af 0,.bool false]))=some (ag,V)/\Le U V/\V.next=U.next+1/\V.get U.next=some (.cells [.af c,.af t,.bool e]):=by have:=tJ (n:=3) (vs:=#[.af c,.af t,.bool e]) (AW.a8 U (.cells [.af 0,.af 0,.bool false])) rfl rfl rfl;rw[im]at this;exact⟨_,aeh U,this,(Le.refl _).add _,rfl,AW.a8 _ _⟩
def VK{V4:AW}(h:wM W V4 v sv ev cv s.of lv tn st x)(hC:JC W v s cv lv)(hI:na s)(ho:s.of x.wk=some o)(hs:jc W sv v.az)(hv:v.az.length<1000)(hr:∀s∈v.az,s.rows.length<1000){b3:Nat}(C1:W.next+3<=b3/\b3<V4.next)(g3:V4.get b3=some (.cells [.af (o.c:Int),.af (o.s:Int),.bool o.e])):
 ∃(V5 V6 V7 V8:AW) (u uv:ae) (B:Nat) (se:Int),aC Tryz.prog 33 0 [] V4=some (.slice (some ⟨V4.next,0,none⟩) 0 0,V5)/\aJ (.pointer (some ⟨W.next,5,none⟩)) V5=some (cv,V5)/\aO Tryz.prog V5 #[33,33] (.slice (some ⟨V4.next,0,none⟩) 0 0) cv=some (u,V6)/\
  bU 1 (.pointer (some ⟨W.next,5,none⟩)) u V6=some (ag,V7)/\bA 4 (cp W.next) V7=some (gW v sv,V7)/\aJ (.pointer (some ⟨W.next,5,none⟩)) V7=some (u,V7)/\aJ (cp b3) V7=some (.af (o.c:Int),V7)/\(∀W' kk,iY 26 u (.int kk (o.c:Int)) W'=some (.pointer (some ⟨B,o.c*26,none⟩),W'))/\
  bA 12 (.pointer (some ⟨B,o.c*26+2,none⟩)) V7=some (yb (bh s o.c).op,V7)/\bl (.func (.func 60) #[] #[]) [gW v sv,yb (bh s o.c).op] V7=some (.tuple #[uv,.af se],V8)/\TS V8 uv (uU v (bh s o.c).op)/\
  wM W V8 v sv ev u s.of lv tn st x/\V8.get b3=some (.cells [.af (o.c:Int),.af (o.s:Int),.bool o.e])/\(W.next+3<=B/\b3≠B/\B<V8.next/\V8.get B=some (.cells (s.cl.flatMap fG))/\∃c,u=.slice (some ⟨B,0,none⟩) s.cl.length c)/\Eng.one u=true/\V4.next<=V8.next:=by
 have Th:=h.nx;have lm:=hI.of _ _ ho;have fb:=hI.len;obtain⟨V5,OY⟩:∃V5,V5=V4.add (.cells []):=⟨_,rfl⟩;have l5:Le V4 V5:=by rw[OY];exact(Le.refl _).add _
 have n5:V5.next=V4.next+1:=by rw[OY];rfl
 have b5:=Qy V4;rw[<-OY]at b5;have h5:=h.mono l5;have hE0:EL V5.next V5 26 fG (.slice (some ⟨V4.next,0,none⟩) 0 0) []:=EL.Yk _ _ _ _ _;obtain⟨u,V6,m1,m2,m3,m4⟩:=hE0.app TV cQ zZ (hC.c.dK h5.le) (by simp;omega) (by simp;omega) (aS _);rw[lu]at m2;have h6:=h5.Yg m3 λd hd=>m4 d (by omega)
 have ug:=eJ (m2.rd cQ);have sc:=Lz h6.g0 ug.1 ug.2;have h7:=h6.put u s.of lv tn st;obtain⟨V7,Wr⟩:∃V7,V7=V6.put W.next (.cells (ez v sv ev u s.of lv tn st)):=⟨_,rfl⟩;rw[<-Wr]at sc h7;have n7:V7.next=V6.next:=by rw[Wr];rfl
 have o7:∀d,d≠W.next->V7.get d=V6.get d:=λd hd=>by rw[Wr];exact AW.aE _ _ (bL hd)
 rcases m2 with⟨e,-⟩|⟨h0,B,cc,alT,hBn,rfl,lT,hB⟩
 ·rw[e]at lm;cases lm
 have hB7:V7.get B=some (.cells (s.cl.flatMap fG)):=(o7 _ (by omega)).trans hB;obtain⟨f1,f2,f3⟩:=oW hB7 lm;have g37:V7.get b3=some (.cells [.af (o.c:Int),.af (o.s:Int),.bool o.e]):=(o7 _ (by omega)).trans ((m4 _ (by omega)).trans ((l5.get _ C1.2).trans g3));obtain⟨uv,V8,a1,a2,a3⟩:=OJ (o:=(bh s o.c).op) (hs.mono h7.le) hv hr;refine⟨V5,V6,V7,V8,_,uv,B,_,b5,gf h5.g0,m1,sc,Ty h7.g0,gf h7.g0,gH g37 rfl,λW' kk=>by rw[t7 (by omega),aK],f2,a1,a3,h7.mono a2,(a2.get _ (by omega)).trans g37,⟨by omega,by omega,by have:=a2.next;omega,(a2.get _ (by omega)).trans hB7,cc,rfl⟩,ug.2,by have:=a2.next;omega⟩
def RR(v:cT)(q:pV):((uU v q).length:Int)=(lF v q).1:=by
 unfold uU lF;by_cases e:(cO v q).2=0
 ·rw[ax e,ax e,BZ];show((2*_+1:Nat):Int)=2*_+1;omega
 ·rw[ay e,ay e];rfl
def Mw(v:cT)(q:pV)(i:Nat)(a k:Int):iN v q i=((a,k),0)<->∃h:i<(uU v q).length,(uU v q)[i]=(a,k):=by
 unfold iN uU;by_cases e:(cO v q).2=0
 ·rw[ax e];simp only[ax e];by_cases c:0<=(i:Int)/\(i:Int)<2*((cO v q).1.length:Int)+1
  ·rw[ax c];have hl:i<(Jf (cO v q).1).length:=by rw[BZ];omega
   have hg:=RY (cO v q).1 (i:=i) (by omega);rw[dm hl]at hg;injection hg with hg;constructor
   ·intro h;refine⟨hl,?_⟩;rw[hg];simpa using h
   ·rintro⟨h,h2⟩;rw[hg]at h2;simp only[ot,h2]
  ·rw[ay c];constructor
   ·intro h;simp at h
   ·rintro⟨h,-⟩;rw[BZ]at h;omega
 ·rw[ay e];simp only[ay e];constructor
  ·intro h;simp at h;exact absurd h.2 e
  ·rintro⟨h,-⟩;simp at h
end
def Cx(v:cT)(s:RS)(x:eg):Int:=if eF s x≠0 then eF s x else cL v s x
def av(z:Nat)(c:ae):Prop:=∀a k m,c=.slice (some a) k m->k≠0->a.block≠z
def St{α:Type}{W:AW}{z q:Nat}{f:α->List ae}{c:ae}{l:List α}(h:Rd W z f c l)(hq:W.next<=q):av q c:=by
 obtain⟨a,m,rfl,h⟩:=h;intro a' k m' e hk;injection e with e1 e2 e3;rcases h with h|⟨b,o,cs,rfl,h2,-⟩
 ·rw[h]at e2;exact absurd e2.symm hk
 ·injection e1 with e1;rw[<-e1];show b≠q;omega
def yc{α:Type}{U U':AW}{z n q:Nat}{f:α->List ae}{c0 c:ae}{l:List α}(h:Rd U z f c l)(hf:OU n c0 c)(ha:av q c0)(hq:q<n)(hn:U.next<=U'.next)(hg:∀d,d≠q->U'.get d=U.get d):Rd U' z f c l:=by
 obtain⟨a,m,rfl,h⟩:=h;refine⟨a,m,rfl,?_⟩;rcases h with h|⟨b,o,cs,rfl,h2,h3,h4⟩
 ·exact .inl h
 by_cases e0:l=[]
 ·exact .inl e0
 have hl:l.length≠0:=λe=>e0 (jz.1 e)
 have hb:b≠q:=by
  rcases hf with e|e
  ·exact ha _ _ _ e.symm hl
  ·have:=e _ _ _ rfl;have:n<=b:=this;omega
 refine .inr ⟨b,o,cs,rfl,by omega,?_,h4⟩;unfold aI at h3|-;rw[hg b hb];exact h3
section
variable {W V U:AW} {v:cT} {sv ev cv lv:ae} {s:RS} {f:Int->Option dZ} {tn st:Int} {l:List eg} {i:Nat} {x:eg} {o:dZ}
def Z7{b2:Nat}{cs:List ae}(h1:Eng.one sv=true)(h2:Eng.one ev=true)(h3:Eng.one cv=true)(h4:Eng.one lv=true)(g2:U.get b2=some (.cells cs))(hl:cs.length=204)(e:Int):
 ∃U',bU 204 (cp b2) (sy v sv ev cv f lv tn st) U=some (ag,U')/\aD Tryz.prog [(cp b2,some 88),(.af e,none)] U'=some (.tuple #[sy v sv ev cv f lv tn st,.af e],U')/\U'.next=U.next/\∀d,d≠b2->U'.get d=U.get d:=by
 refine⟨_,iU g2 hl h1 h2 h3 h4,?_,rfl,λd hd=>AW.aE _ _ (bL hd)⟩;rw[jv,MF,gU (AW.bE _ _ _)];rfl
def wM.aeB{V8 U:AW}{n:Nat}{c0 l0 val:ae}{e:Int}{s':RS}(h:wM W V8 v sv ev cv f lv tn st x)(h1:Eng.one sv=true)(h2:Eng.one ev=true)(bi:Le V8 U)(hA:CM U n c0 l0 v sv ev val e s')(hn:W.next+1<n)(ha:av (W.next+1) c0)(hb:av (W.next+1) l0){m:Nat}{c1 l1:ae}(hm:m<=n)
 (hc:OU m c1 c0)(hd:OU m l1 l0):∃U',bU 204 (cp (W.next+1)) val U=some (ag,U')/\aD Tryz.prog [(cp (W.next+1),some 88),(.af e,none)] U'=some (.tuple #[val,.af e],U')/\Le W U'/\CM U' m c1 l1 v sv ev val e s':=by
 have Th:=h.nx;obtain⟨nG,Bi,f',Q6,I0,rfl,a1,a2,a3⟩:=hA;have Yn:=bi.next;have Wq:=h.le.next;obtain⟨U',q1,q2,q3,q4⟩:=Z7 (v:=v) (sv:=sv) (ev:=ev) (cv:=nG) (lv:=Bi) (f:=f') (tn:=Q6) (st:=I0) h1 h2 a1 a2 ((bi.get (W.next+1) (by omega)).trans h.g1) dz e;have ft:∀{p q r:ae},OU m p q->OU n q r->OU m p r:=λ{p q r} g1 g2=>by
  rcases g2 with rfl|g2
  ·exact g1
  ·exact .inr λa k m' e=>fL hm (g2 a k m' e)
 refine⟨U',q1,q2,⟨by omega,λd hd=>(q4 d (by omega)).trans ((h.le.trans bi).get d hd)⟩,nG,Bi,f',Q6,I0,rfl,a1,a2,λhe=>?_⟩;obtain⟨b1,b2,b3,b4,b5,b6⟩:=a3 he;exact⟨b1,b2,b3,⟨yc b4.c b5 ha hn (by omega) q4,yc b4.l b6 hb hn (by omega) q4⟩,ft hc b5,ft hd b6⟩
open Classical in
def aeM(h:wM W V v sv ev cv s.of lv s.tn s.st x)(hC:JC W v s cv lv)(hI:na s)(hr:KJ W ev l)(hx:l[i]? =some x)(hs:jc W sv v.az)(hv:v.az.length<1000)(hrw:∀s∈v.az,s.rows.length<1000)(h1:Eng.one sv=true)(hw:1<=x.wk/\x.wk<=64)(hk:x.k=1\/x.k=5\/x.k=6\/eF s x≠0):
 Ok (fD bl (.af (i:Int)) (cp W.next) (cp (W.next+1)) (cp (W.next+2)) V) λr=>∃val,r.1=.tuple #[val,.af (Cx v s x)]/\Le W r.2/\CM r.2 W.next cv lv v sv ev val (Cx v s x) (pD s i x):=by
 have h2:Eng.one ev=true:=row_one hr;have h3:=(eJ hC.c).2;have h4:=(eJ hC.l).2;have Th:=h.nx;have lk:=qX h.g2;have avc:=St hC.c (q:=W.next+1) (by omega);have avl:=St hC.l (q:=W.next+1) (by omega);unfold fD;by_cases k1:x.k=1
 ·have d:=aY k1;have e0:Cx v s x=cL v s x:=by unfold Cx eF;rw[ax k1];rfl
  obtain⟨val,W',a1,a2,a3⟩:=I3 (hr.mono h.le) hx (hC.mono h.le) hI h1 hw k1;obtain⟨U',q1,q2,q3,q4⟩:=h.aeB h1 h2 a2 a3 (by omega) avc avl (m:=W.next) (c1:=cv) (l1:=lv) (by omega) (.inl rfl) (.inl rfl);simp only[SX,aK,lk,d,gU h.g0,a1,q1,q2,am];exact⟨val,by rw[e0],q3,by rw[e0];exact q4⟩
 have d:=bu k1;have lw:=eK h.g2;have li:=fa h.g2;obtain⟨w,zt⟩:∃w:Nat,x.wk=(w:Int):=⟨x.wk.toNat,by omega⟩;have ix:=λW'=>pN (len:=65) (z:=3) (b:=W.next) (o:=6) (i:=w) (k:=.i64) (W:=W') (by omega)
 rw[<-zt]at ix;have l3:=Jt h.g0 (w:=w) (by omega);rw[<-zt]at l3;cases ho:s.of x.wk with
 |none=>
  rw[ho]at l3;have L6:bA 3 (.pointer (some ⟨W.next,6+w*3,none⟩)) V=some (.agg #[.af (-1),.af 0,.bool false],V):=l3;obtain⟨V4,b1,b2,b3,b4,b5⟩:=nxO h (-1) 0 false;have e0:Cx v s x=4:=by unfold Cx eF;rw[ay k1,ho];rfl
  have Ki:aJ (cp V.next) V4=some (.af (-1),V4):=gH b5 rfl;obtain⟨U',q1,q2,q3,q4,q5,q6⟩:=(h.mono b3).fin h1 h2 h3 h4 4;have d2:decide ((-1:Int)<0)=true:=by decide
  simp only[SX,aK,ce,lk,d,lw,ix,L6,b1,b2,Ki,d2,q1,q2,q3,am];exact⟨_,by rw[e0],q4,.bad (by rw[e0];decide) h3 h4⟩
 |some o=>
 rw[ho]at l3;have L6:bA 3 (.pointer (some ⟨W.next,6+w*3,none⟩)) V=some (.agg #[.af (o.c:Int),.af (o.s:Int),.bool o.e],V):=l3;obtain⟨V4,b1,b2,b3,b4,b5⟩:=nxO h o.c o.s o.e;have Ki:aJ (cp V.next) V4=some (.af (o.c:Int),V4):=gH b5 rfl;have d2:decide ((o.c:Int)<0)=false:=fF;have yE:=h.mono b3;have lm:=hI.of _ _ ho;obtain⟨B,oo,c1,c2⟩:=Jk.get (BM cQ (hC.c.dK yE.le)) lm;obtain⟨-,c3,-,-⟩:=c2 V4 rfl;rw[<-nJ lm]at c3;by_cases id:(bh s o.c).id=x.id;case neg=>
  have d3:=bu id;have e0:Cx v s x=4:=by unfold Cx eF;rw[ay k1,ho];simp only[ne_eq,id,not_false_eq_true,bk];rfl
  obtain⟨U',q1,q2,q3,q4,q5,q6⟩:=yE.fin h1 h2 h3 h4 4;simp only[SX,aK,ce,lk,d,lw,ix,L6,b1,b2,Ki,d2,fa yE.g2,gf yE.g0,c1,c3,d3,q1,q2,q3,am];exact⟨_,by rw[e0],q4,.bad (by rw[e0];decide) h3 h4⟩
 have d3:=aY id;have en:eF s x=0:=by unfold eF;rw[ay k1,ho];simp only[ne_eq,id,sW,bG]
 have e0:Cx v s x=cL v s x:=by unfold Cx;rw[en];rfl
 have k56:x.k=5\/x.k=6:=by rcases hk with hk|hk|hk|hk;exact absurd hk k1;exact .inl hk;exact .inr hk;exact absurd en hk
 obtain⟨V5,V6,V7,V8,u,uv,B2,se,p1,p2,p3,p4,p5,p6,p7,p8,p9,S9,p11,JA,p13,⟨p14,p15,p16,p17,cc,VY⟩,Oi,p20⟩:=VK yE hC hI ho hs hv hrw (b3:=V.next) ⟨by omega,by omega⟩ b5;have hu:Rd V8 26 fG u s.cl:=⟨_,_,VY,.inr ⟨B2,0,_,rfl,p16,bm p17,by rw[jy,<-cw cQ s.cl,dN]⟩⟩;have avu:av (W.next+1) u:=λa k m e hk=>by rw[VY]at e;injection e with e;injection e with e;rw[<-e];show B2≠_;omega
 have fu:OU W.next cv u:=.inr λa k m e=>by rw[VY]at e;injection e with e;injection e with e;rw[<-e];show _<=B2;omega
 have ln:∀W',aG Tryz.prog .len #[130] 3 #[false] [uv] W'=some (.af (lF v (bh s o.c).op).1,W'):=λW'=>by rw[<-RR];exact Row.len p11 Wo W' 3 #[false]
 have n8:=JA.nx;have S2:=qX JA.g2;have TD:aJ (.pointer (some ⟨V.next,1,none⟩)) V8=some (.af (o.s:Int),V8):=gH p13 rfl;have lci:aJ (cp V.next) V8=some (.af (o.c:Int),V8):=gH p13 rfl;rcases k56 with k5|k6
 ·have d5:=aY k5;have hE:cL v s x=if(o.s:Int)<(lF v (bh s o.c).op).1 then 6 else 0:=by unfold cL;rw[ay k1,ho];simp only[ax k5]
  by_cases e1:(o.s:Int)<(lF v (bh s o.c).op).1
  ·have d6:=aY e1;rw[ax e1]at hE;obtain⟨U',q1,q2,q3,q4,q5,q6⟩:=JA.fin h1 h2 Oi h4 6;simp only[SX,aK,ce,lk,d,lw,ix,L6,b1,b2,Ki,d2,fa yE.g2,gf yE.g0,c1,c3,d3,p1,p2,p3,p4,p5,p6,p7,p8,p9,S9,S2,d5,TD,ln,d6,q1,q2,q3,am];exact⟨_,by rw[e0,hE],q4,.bad (by rw[e0,hE];decide) Oi h4⟩
  have d6:=bu e1;rw[ay e1]at hE;have st1:=K8 p17 lm (i:Int);obtain⟨V9,Oq⟩:∃V9,V9=V8.put B2 (.cells ((s.cl.set o.c {s.cl[o.c]with an:=(i:Int)}).flatMap fG)):=⟨_,rfl⟩;rw[<-Oq]at st1;have n9:V9.next=V8.next:=by rw[Oq];rfl
  have o9:∀d,d≠B2->V9.get d=V8.get d:=λd hd=>by rw[Oq];exact AW.aE _ _ (bL hd)
  have gB9:V9.get B2=some (.cells ((s.cl.set o.c {s.cl[o.c]with an:=(i:Int)}).flatMap fG)):=by rw[Oq];exact AW.bE _ _ _
  have h9:wM W V9 v sv ev u s.of lv s.tn s.st x:=JA.Yg (by omega) λd hd=>o9 d (by omega)
  have so:=LI h9.g0 (w:=w) (by omega) none;have so':bU 3 (.pointer (some ⟨W.next,6+w*3,none⟩)) (.agg #[.af (-1),.af 0,.bool false]) V9=_:=so;have wI:=h9.put u (λk=>if k=(w:Int)then none else s.of k) lv s.tn s.st;obtain⟨Vx,YJ⟩:∃Vx,Vx=V9.put W.next (.cells (ez v sv ev u (λk=>if k=(w:Int)then none else s.of k) lv s.tn s.st)):=⟨_,rfl⟩;rw[<-YJ]at so' wI;have ai3:Vx.get B2=some (.cells ((s.cl.set o.c {s.cl[o.c]with an:=(i:Int)}).flatMap fG)):=by rw[YJ];exact(AW.aE _ _ (by omega)).trans gB9
  have n10:Vx.next=V9.next:=by rw[YJ];rfl
  obtain⟨U',q1,q2,q3,q4,q5,q6⟩:=wI.fin h1 h2 Oi h4 0;have bd:=aa3 (-1);simp only[SX,aK,ce,lk,d,lw,ix,L6,b1,b2,Ki,d2,fa yE.g2,gf yE.g0,c1,c3,d3,p1,p2,p3,p4,p5,p6,p7,p8,p9,S9,S2,d5,TD,ln,d6,gf JA.g0,lci,st1,eK h9.g2,bd,so',q1,q2,q3,am];refine⟨_,by rw[e0,hE],q4,u,lv,_,_,_,rfl,Oi,h4,λ_=>?_⟩;have er:pD s i x={s with cl:=s.cl.set o.c {s.cl[o.c]with an:=(i:Int)},of:=λw=>if w=x.wk then none else s.of w}:=by unfold pD;rw[ay k1,ho];simp only[ax k5,zS lm]
  rw[er];refine⟨by rw[zt],rfl,rfl,⟨?_,hC.l.dK q4⟩,fu,.inl rfl⟩;refine⟨_,_,by rw[nf];exact VY,.inr ⟨B2,0,_,rfl,by omega,bm ((q6 _ (by omega)).trans ai3),?_⟩⟩;rw[jy,<-cw cQ,dN]
 ·have d5:decide (x.k=5)=false:=fF;have d6:=aY k6;have l8:Le W V8:=JA.le;obtain⟨val,W',a1,a2,a3⟩:=JU (hr.mono l8) hx ⟨hu,hC.l.dK l8⟩ hI h1 hw k6 ho;obtain⟨U',q1,q2,q3,q4⟩:=JA.aeB h1 h2 a2 a3 (by omega) avu avl (m:=W.next) (c1:=cv) (l1:=lv) (by omega) fu (.inl rfl);simp only[SX,aK,ce,lk,d,lw,ix,L6,b1,b2,Ki,d2,fa yE.g2,gf yE.g0,c1,c3,d3,p1,p2,p3,p4,p5,p6,p7,p8,p9,S9,S2,d5,d6,gU JA.g0,a1,q1,q2,am];exact⟨val,by rw[e0],q3,by rw[e0];exact q4⟩
end
def Zl(W:AW):aC Tryz.prog 64 0 [] W=some (.slice (some ⟨W.next,0,none⟩) 0 0,W.add (.cells [])):=aH (by kernel_rfl) rfl
def De(W:AW):bH Tryz.prog 133 [(0,.af 0),(1,.af 0),(2,.af 1),(3,.af 2),(4,.af 3)] W=some (.agg #[.af 0,.af 0,.af 1,.af 2,.af 3],W):=aH (by kernel_rfl) rfl
def Uo(W:AW):dU Tryz.prog 133 (.agg #[.af 0,.af 0,.af 1,.af 2,.af 3]) (.af 2) W=some (.af 1,W):=aH (by kernel_rfl) rfl
def UG(W:AW):dU Tryz.prog 133 (.agg #[.af 0,.af 0,.af 1,.af 2,.af 3]) (.af 3) W=some (.af 2,W):=aH (by kernel_rfl) rfl
def Vh(W:AW):dU Tryz.prog 133 (.agg #[.af 0,.af 0,.af 1,.af 2,.af 3]) (.af 4) W=some (.af 3,W):=aH (by kernel_rfl) rfl
def ach{k:Int}(h:k=2\/k=3\/k=4)(W:AW):dU Tryz.prog 133 (.agg #[.af 0,.af 0,.af 1,.af 2,.af 3]) (.af k) W=some (.af (jI k),W):=by
 rcases h with rfl|rfl|rfl
 ·exact Uo W
 ·exact UG W
 ·exact Vh W
def xM(n:Int):(ka n).length=1:=rfl
def N0(n:Int):(ka n).all Eng.one=true:=rfl
def LC{s s':RS}{n j:Nat}{q:Option Int}(h:∀k:Nat,s'.lk k=if k=j then q else s.lk k):DV s' n=(DV s n).set j (q.getD 0):=by
 unfold DV;refine List.ext_getElem (by simp) λk h1 h2=>?_
 rw[List.getElem_set];simp only[List.getElem_map,List.getElem_range,h];by_cases e:k=j
 ·rw[ax e,ax e.symm]
 ·rw[ay e,ay (bL e)]
def afn{s:RS}{U:AW}{B n j:Nat}(hB:U.get B=some (.cells ((DV s n).flatMap ka)))(hj:j<n):aJ (.pointer (some ⟨B,j,none⟩)) U=some (.af ((s.lk j).getD 0),U):=by refine gH hB ?_;rw[qS,jf];unfold DV;rw[jf,zK hj];rfl
def Wa{s:RS}{U:AW}{B n j:Nat}(hB:U.get B=some (.cells ((DV s n).flatMap ka)))(hj:j<n)(z:Int):bU 1 (.pointer (some ⟨B,j,none⟩)) (.af z) U=some (ag,U.put B (.cells (((DV s n).set j z).flatMap ka))):=by rw[ip rfl rfl,Fa hB,bq,ax (by rw[qS,ox,qn];exact hj)];rw[qS,qS,List.map_set]
section
variable {W V U:AW} {v:cT} {sv ev cv lv:ae} {s:RS} {f:Int->Option dZ} {tn st:Int} {l:List eg} {i:Nat} {x:eg} {o:dZ}
def agy(h:wM W U v sv ev cv s.of lv tn st x)(h1:Eng.one sv=true)(h2:Eng.one ev=true)(h3:Eng.one cv=true)(h4:Eng.one lv=true)(hw:1<=x.wk/\x.wk<=64)(ho:s.of x.wk=some o)(h49:o.s<=49):
 ∃U',gF bl (cp W.next) (cp (W.next+1)) (cp (W.next+2)) U=some (.tuple #[sy v sv ev cv (λk=>if k=x.wk then some ⟨o.c,o.s+1,o.e⟩else s.of k) lv tn st,.af 0],U')/\Le W U'/\U'.next=U.next/\∀d,d≠W.next->d≠W.next+1->U'.get d=U.get d:=by
 obtain⟨w,zt⟩:∃w:Nat,x.wk=(w:Int):=⟨x.wk.toNat,by omega⟩;have ix:=λW'=>pN (len:=65) (z:=3) (b:=W.next) (o:=6) (i:=w) (k:=.i64) (W:=W') (by omega)
 rw[<-zt]at ix;have gJ:s.of (w:Int)=some o:=by rw[<-zt];exact ho
 have lw:=eK h.g2;have lo:aJ (.pointer (some ⟨W.next,6+w*3+1,none⟩)) U=some (.af (o.s:Int),U):=LS h.g0 (w:=w) (by omega) (by omega) (by rw[gJ];rfl);have ad:=λW'=>dP W' (o.s:Int) 1
 have e1:((o.s:Int)+1)=((o.s+1:Nat):Int):=by omega
 have so:=SW h.g0 (w:=w) (by omega) (j:=1) (by omega) (x:=.af ((o.s:Int)+1)) rfl rfl (o:=⟨o.c,o.s+1,o.e⟩) (by rw[gJ,e1];rfl);rw[<-zt]at so;have hp:=h.put cv (λk=>if k=x.wk then some ⟨o.c,o.s+1,o.e⟩else s.of k) lv tn st;obtain⟨U1,j7⟩:∃U1,U1=U.put W.next (.cells (ez v sv ev cv (λk=>if k=x.wk then some ⟨o.c,o.s+1,o.e⟩else s.of k) lv tn st)):=⟨_,rfl⟩;rw[<-j7]at so hp;obtain⟨U',q1,q2,q3,q4,q5,q6⟩:=hp.fin h1 h2 h3 h4 0;refine⟨U',?_,q4,by rw[q5,j7];rfl,λd hd hd1=>(q6 d hd1).trans (by rw[j7];exact AW.aE _ _ (bL hd))⟩;unfold gF;simp only[SX,aK,lw,ix,lo,ad,so,q1,q2,q3]
open Classical in
def afj(h:wM W V v sv ev cv s.of lv s.tn s.st x)(hC:JC W v s cv lv)(hI:na s)(hr:KJ W ev l)(hs:jc W sv v.az)(hv:v.az.length<1000)(hrw:∀s∈v.az,s.rows.length<1000)(hvz:(eR v).2=0)(Kx:1<=v.sh/\v.sh<=16)(hlk:∀j id,s.lk j=some id->1<=id)(h1:Eng.one sv=true)(hw:1<=x.wk/\x.wk<=64)(hk:x.k=2\/x.k=3\/x.k=4)(hn:eF s x=0):
 Ok (fD bl (.af (i:Int)) (cp W.next) (cp (W.next+1)) (cp (W.next+2)) V) λr=>∃val,r.1=.tuple #[val,.af (Cx v s x)]/\Le W r.2/\CM r.2 W.next cv lv v sv ev val (Cx v s x) (pD s i x):=by
 have h2:Eng.one ev=true:=row_one hr;have h3:=(eJ hC.c).2;have h4:=(eJ hC.l).2;have Th:=h.nx;have lk:=qX h.g2;have k1:x.k≠1:=by omega
 unfold fD;have d:=bu k1;have lw:=eK h.g2;have e0:Cx v s x=cL v s x:=by unfold Cx;rw[hn];rfl
 obtain⟨w,zt⟩:∃w:Nat,x.wk=(w:Int):=⟨x.wk.toNat,by omega⟩;have ix:=λW'=>pN (len:=65) (z:=3) (b:=W.next) (o:=6) (i:=w) (k:=.i64) (W:=W') (by omega)
 rw[<-zt]at ix;have l3:=Jt h.g0 (w:=w) (by omega);rw[<-zt]at l3;cases ho:s.of x.wk with
 |none=>unfold eF at hn;rw[ay k1,ho]at hn;exact absurd (show(4:Int)=0 from hn) (by decide)
 |some o=>
 rw[ho]at l3;have L6:bA 3 (.pointer (some ⟨W.next,6+w*3,none⟩)) V=some (.agg #[.af (o.c:Int),.af (o.s:Int),.bool o.e],V):=l3;obtain⟨V4,b1,b2,b3,b4,b5⟩:=nxO h o.c o.s o.e;have Ki:aJ (cp V.next) V4=some (.af (o.c:Int),V4):=gH b5 rfl;have d2:decide ((o.c:Int)<0)=false:=fF;have yE:=h.mono b3;have lm:=hI.of _ _ ho;have h49:=hI.steps _ _ ho;obtain⟨B,oo,c1,c2⟩:=Jk.get (BM cQ (hC.c.dK yE.le)) lm;obtain⟨-,c3,-,-⟩:=c2 V4 rfl;rw[<-nJ lm]at c3;have id:(bh s o.c).id=x.id:=by
  unfold eF at hn;rw[ay k1,ho]at hn;simp only at hn;by_cases e:(bh s o.c).id=x.id
  ·exact e
  ·rw[ax e]at hn;exact absurd hn (by decide)
 have d3:=aY id;obtain⟨V5,V6,V7,V8,u,uv,B2,se,p1,p2,p3,p4,p5,p6,p7,p8,p9,S9,p11,JA,p13,⟨p14,p15,p16,p17,cc,VY⟩,Oi,p20⟩:=VK yE hC hI ho hs hv hrw (b3:=V.next) ⟨by omega,by omega⟩ b5;have fu:OU W.next cv u:=.inr λa k m e=>by rw[VY]at e;injection e with e;injection e with e;rw[<-e];show _<=B2;omega
 have ln:∀W',aG Tryz.prog .len #[130] 3 #[false] [uv] W'=some (.af ((uU v (bh s o.c).op).length:Int),W'):=λW'=>Row.len p11 Wo W' 3 #[false]
 have n8:=JA.nx;have S2:=qX JA.g2;have ll8:=rA JA.g2;have TD:aJ (.pointer (some ⟨V.next,1,none⟩)) V8=some (.af (o.s:Int),V8):=gH p13 rfl;have d5:decide (x.k=5)=false:=fF;have d6:decide (x.k=6)=false:=fF;have OB:=ach hk;have hR:=pZ (v:=v) ho k1 (by omega) (by omega);have hA:=Mw v (bh s o.c).op o.s (jI x.k) x.lk;by_cases e1:(uU v (bh s o.c).op).length<=o.s
 ·have d7:decide (((uU v (bh s o.c).op).length:Int)<=(o.s:Int))=true:=pd;rw[ay λe=>by obtain⟨q,-⟩:=hA.1 e;omega]at hR;obtain⟨U',q1,q2,q3,q4,q5,q6⟩:=JA.fin h1 h2 Oi h4 6;simp only[SX,aK,ce,lk,d,lw,ix,L6,b1,b2,Ki,d2,fa yE.g2,gf yE.g0,c1,c3,d3,p1,p2,p3,p4,p5,p6,p7,p8,p9,S9,S2,d5,d6,De,OB,TD,ln,d7,q1,q2,q3,am];exact⟨_,by rw[e0,hR],q4,.bad (by rw[e0,hR];decide) Oi h4⟩
 have d7:decide (((uU v (bh s o.c).op).length:Int)<=(o.s:Int))=false:=fF;have gY:o.s<(uU v (bh s o.c).op).length:=by omega
 obtain⟨sb,so,s1,s2⟩:=p11.get gY;have bd:=ID (jI x.k) x.lk;obtain⟨a,b,UY⟩:∃a b,(uU v (bh s o.c).op)[o.s]=(a,b):=⟨_,_,rfl⟩;rw[UY]at s2;have s2':∀W',Le V8 W'->bA 2 (.pointer (some ⟨sb,so,none⟩)) W'=some (.agg #[.af a,.af b],W'):=s2;have EO:∀W',bH Tryz.prog 135 [(0,.af (jI x.k)),(1,.af x.lk)] W'=some (.agg #[.af (jI x.k),.af x.lk],W'):=bd;have s2e:=s2' V8 (.refl _);by_cases e2:a=jI x.k/\b=x.lk;case neg=>
  have d8:(!(a==jI x.k&&b==x.lk))=true:=by
   cases hb:(a==jI x.k&&b==x.lk)with
   |false=>rfl
   |true=>simp at hb;exact absurd hb e2
  rw[ay λe=>by obtain⟨q,q2⟩:=hA.1 e;rw[UY]at q2;injection q2 with q2 q3;exact e2 ⟨q2,q3⟩]at hR;obtain⟨U',q1,q2,q3,q4,q5,q6⟩:=JA.fin h1 h2 Oi h4 6;simp only[SX,aK,ce,lk,d,lw,ix,L6,b1,b2,Ki,d2,fa yE.g2,gf yE.g0,c1,c3,d3,p1,p2,p3,p4,p5,p6,p7,p8,p9,S9,S2,d5,d6,De,OB,TD,ln,d7,s1,s2e,ll8,EO,DO,d8,q1,q2,q3,am];exact⟨_,by rw[e0,hR],q4,.bad (by rw[e0,hR];decide) Oi h4⟩
 have d8:(!(a==jI x.k&&b==x.lk))=false:=by simp[e2]
 have px:iN v (bh s o.c).op o.s=((jI x.k,x.lk),0):=hA.2 ⟨gY,by rw[UY,e2.1,e2.2]⟩;rw[ax px]at hR;have If:oH v<2000:=by unfold oH;omega
 have adg:0<oH v:=by unfold oH;omega
 obtain⟨V9,Oq⟩:∃V9,V9=V8.add (.cells []):=⟨_,rfl⟩;have l9:Le V8 V9:=by rw[Oq];exact(Le.refl _).add _
 have n9:V9.next=V8.next+1:=by rw[Oq];rfl
 have b9:=Zl V8;rw[<-Oq]at b9;have h9:=JA.mono l9;have hE0:EL V9.next V9 1 ka (.slice (some ⟨V8.next,0,none⟩) 0 0) []:=EL.Yk _ _ _ _ _;obtain⟨u2,Vx,m1,m2,m3,m4⟩:=hE0.app Ic xM N0 (hC.l.dK h9.le) (by rw[qn];simp;omega) (by rw[qn];simp;omega) (aS _);rw[lu]at m2;have wI:=h9.Yg m3 λd hd=>m4 d (by omega)
 have ug:=eJ (m2.rd xM);have sl:=Ky wI.g0 ug.1 ug.2;have ve:=wI.put u s.of u2 s.tn s.st;obtain⟨A0,Yc⟩:∃A0,A0=Vx.put W.next (.cells (ez v sv ev u s.of u2 s.tn s.st)):=⟨_,rfl⟩;rw[<-Yc]at sl ve;have n11:A0.next=Vx.next:=by rw[Yc];rfl
 have o11:∀d,d≠W.next->A0.get d=Vx.get d:=λd hd=>by rw[Yc];exact AW.aE _ _ (bL hd)
 rcases m2 with⟨e,-⟩|⟨hz,B3,c3',amO,hn3,hu2,-,hB3⟩
 ·have:=cI List.length e;rw[qn]at this;exact absurd this (by simp;omega)
 rw[qn]at hu2;have gB3:A0.get B3=some (.cells ((DV s (oH v)).flatMap ka)):=(o11 _ (by omega)).trans hB3;have gB2:A0.get B2=some (.cells (s.cl.flatMap fG)):=(o11 _ (by omega)).trans ((m4 _ (by omega)).trans ((l9.get _ p16).trans p17));have gV:A0.get V.next=some (.cells [.af (o.c:Int),.af (o.s:Int),.bool o.e]):=(o11 _ (by omega)).trans ((m4 _ (by omega)).trans ((l9.get _ (by omega)).trans p13));have fl:OU W.next lv u2:=.inr λa k m e=>by rw[hu2]at e;injection e with e;injection e with e;rw[<-e];show _<=B3;omega
 have xJ:(pD s i x).of=λk=>if k=x.wk then some ⟨o.c,o.s+1,o.e⟩else s.of k:=by unfold pD;rw[ay k1,ho];simp only[ay (show¬x.k=5 by omega),ay (show¬x.k=6 by omega)]
 have yn:(pD s i x).cl=if x.k=3 then xK s.cl o.c λc=>{c with co:=i,rp:=x.rp}else s.cl:=by unfold pD;rw[ay k1,ho];simp only[ay (show¬x.k=5 by omega),ay (show¬x.k=6 by omega)]
 have yd:(pD s i x).lk=λk=>if k=x.lk then(if x.k=2 then some x.id else if x.k=4 then none else s.lk k)else s.lk k:=by unfold pD;rw[ay k1,ho];simp only[ay (show¬x.k=5 by omega),ay (show¬x.k=6 by omega)]
 have htn:(pD s i x).tn=s.tn:=by unfold pD;rw[ay k1,ho];simp only[ay (show¬x.k=5 by omega),ay (show¬x.k=6 by omega)]
 have ahl:(pD s i x).st=s.st:=by unfold pD;rw[ay k1,ho];simp only[ay (show¬x.k=5 by omega),ay (show¬x.k=6 by omega)]
 have Tx:=qX ve.g2;have YK:=rA ve.g2;have XP:=AF ve.g0;have done:∀(uJ:AW) (cl':List oK) (lk':List Int),wM W uJ v sv ev u s.of u2 s.tn s.st x->A0.next<=uJ.next->uJ.get B2=some (.cells (cl'.flatMap fG))->uJ.get B3=some (.cells (lk'.flatMap ka))->cl'=(pD s i x).cl->lk'=DV (pD s i x) (oH v)->cL v s x=0->
  Ok (gF bl (cp W.next) (cp (W.next+1)) (cp (W.next+2)) uJ) λr=>∃val,r.1=.tuple #[val,.af (Cx v s x)]/\Le W r.2/\CM r.2 W.next cv lv v sv ev val (Cx v s x) (pD s i x):=by
  intro uJ cl' lk' g akg g2 g3 ec el hz;obtain⟨U',q1,q2,q3,q4⟩:=agy g h1 h2 Oi ug.2 hw ho h49;rw[q1,am];have lT:cl'.length=s.cl.length:=by rw[ec,yn];split;exact pe _ _ _;rfl
  have hll:lk'.length=oH v:=by rw[el,qn]
  refine⟨_,by rw[e0,hz],q2,u,u2,_,_,_,rfl,Oi,ug.2,λ_=>⟨xJ.symm,htn.symm,ahl.symm,⟨?_,?_⟩,fu,fl⟩⟩
  ·rw[<-ec];refine⟨_,_,by rw[lT];exact VY,.inr ⟨B2,0,_,rfl,by show B2<U'.next;omega,bm ((q4 _ (by omega) (by omega)).trans g2),?_⟩⟩;rw[jy,<-cw cQ,dN]
  ·rw[<-el];refine⟨_,_,by rw[hll];exact hu2,.inr ⟨B3,0,_,rfl,by show B3<U'.next;omega,bm ((q4 _ (by omega) (by omega)).trans g3),?_⟩⟩;rw[jy,<-cw xM,dN]
 rcases hk with k2|k3|k4
 ·obtain⟨y1,y2⟩:=DL hvz px (.inl (by rw[k2];rfl));obtain⟨j,hj⟩:∃j:Nat,x.lk=(j:Int):=⟨x.lk.toNat,by omega⟩;have O9:j<oH v:=by unfold oH;omega
  have ixl:∀W' kk,iY 1 u2 (.int kk x.lk) W'=some (.pointer (some ⟨B3,j,none⟩),W'):=λW' kk=>by rw[hu2,hj,t7 O9,aK,jR]
  have ld:=afn gB3 O9;have d9:=aY k2;by_cases e3:(s.lk x.lk).isSome=true
  ·obtain⟨q,hq⟩:=EN.1 e3;have hq1:=hlk _ _ hq;rw[hj]at hq;rw[hq]at ld;have ld':aJ (.pointer (some ⟨B3,j,none⟩)) A0=some (.af q,A0):=ld;have d10:decide (q=0)=false:=fF;rw[ax ⟨k2,e3⟩]at hR;obtain⟨U',q1,q2,q3,q4,q5,q6⟩:=ve.fin h1 h2 Oi ug.2 20;simp only[SX,aK,ce,lk,d,lw,ix,L6,b1,b2,Ki,d2,fa yE.g2,gf yE.g0,c1,c3,d3,p1,p2,p3,p4,p5,p6,p7,p8,p9,S9,S2,d5,d6,De,OB,TD,ln,d7,s1,s2e,ll8,EO,DO,d8,b9,AF h9.g0,m1,sl,Tx,d9,XP,YK,ixl,ld',d10,q1,q2,q3,am];exact⟨_,by rw[e0,hR],q4,.bad (by rw[e0,hR];decide) Oi ug.2⟩
  rw[ay λc=>e3 c.2]at hR;have hq:s.lk (j:Int)=none:=by rw[<-hj];simpa using e3
  rw[hq]at ld;have ld':aJ (.pointer (some ⟨B3,j,none⟩)) A0=some (.af 0,A0):=ld;have d10:decide ((0:Int)=0)=true:=by decide
  have stl:=Wa gB3 O9 x.id;obtain⟨uJ,vF⟩:∃uJ,uJ=A0.put B3 (.cells (((DV s (oH v)).set j x.id).flatMap ka)):=⟨_,rfl⟩;rw[<-vF]at stl;have n12:uJ.next=A0.next:=by rw[vF];rfl
  have Uh:∀d,d≠B3->uJ.get d=A0.get d:=λd hd=>by rw[vF];exact AW.aE _ _ (bL hd)
  simp only[SX,aK,ce,lk,d,lw,ix,L6,b1,b2,Ki,d2,fa yE.g2,gf yE.g0,c1,c3,d3,p1,p2,p3,p4,p5,p6,p7,p8,p9,S9,S2,d5,d6,De,OB,TD,ln,d7,s1,s2e,ll8,EO,DO,d8,b9,AF h9.g0,m1,sl,Tx,d9,XP,YK,ixl,ld',fa ve.g2,stl];refine done uJ s.cl ((DV s (oH v)).set j x.id) (ve.Yg (by omega) λd hd=>Uh d (by omega)) (by omega) ((Uh _ (by omega)).trans gB2) (by rw[vF];exact AW.bE _ _ _) ?_ ?_ hR
  ·rw[yn,bZ]
  ·refine(LC (q:=some x.id) λk=>?_).symm;rw[yd];by_cases e:k=j
   ·simp only[e,hj,bk,ax k2]
   ·simp only[hj,ay e];rw[bZ]
 ·have ahs:(pD s i x).lk=s.lk:=by rw[yd];funext k;rw[ay (show¬x.k=2 by omega),ay (show¬x.k=4 by omega),ite_self]
  rw[bZ]at hR;have d9:decide (x.k=2)=false:=fF;have d10:decide (x.k=4)=false:=fF;have ag2:aJ (cp V.next) A0=some (.af (o.c:Int),A0):=gH gV rfl;have st1:=Lh gB2 lm (i:Int);obtain⟨uJ,vF⟩:∃uJ,uJ=A0.put B2 (.cells ((s.cl.set o.c {s.cl[o.c]with co:=(i:Int)}).flatMap fG)):=⟨_,rfl⟩;rw[<-vF]at st1;have n12:uJ.next=A0.next:=by rw[vF];rfl
  have Uh:∀d,d≠B2->uJ.get d=A0.get d:=λd hd=>by rw[vF];exact AW.aE _ _ (bL hd)
  have g12:uJ.get B2=some (.cells ((s.cl.set o.c {s.cl[o.c]with co:=(i:Int)}).flatMap fG)):=by rw[vF];exact AW.bE _ _ _
  have h12:wM W uJ v sv ev u s.of u2 s.tn s.st x:=ve.Yg (by omega) λd hd=>Uh d (by omega)
  have aim:aJ (cp V.next) uJ=some (.af (o.c:Int),uJ):=gH ((Uh _ (by omega)).trans gV) rfl;have st2:=K5 g12 (c:=o.c) (by rw[nf];exact lm) x.rp;rw[List.set_set,List.getElem_set_self]at st2;obtain⟨V13,UD⟩:∃V13,V13=uJ.put B2 (.cells ((s.cl.set o.c {s.cl[o.c]with co:=(i:Int),rp:=x.rp}).flatMap fG)):=⟨_,rfl⟩;rw[<-UD]at st2;have n13:V13.next=uJ.next:=by rw[UD];rfl
  have o13:∀d,d≠B2->V13.get d=uJ.get d:=λd hd=>by rw[UD];exact AW.aE _ _ (bL hd)
  have vrp:fX (GZ x.rp) (GZ x.rp)=true:=oV (by simp[Se,sS]);have vu:fX u u=true:=by rw[VY];simp[fX,sS,ub]
  simp only[SX,aK,ce,lk,d,lw,ix,L6,b1,b2,Ki,d2,fa yE.g2,gf yE.g0,c1,c3,d3,p1,p2,p3,p4,p5,p6,p7,p8,p9,S9,S2,d5,d6,De,OB,TD,ln,d7,s1,s2e,ll8,EO,DO,d8,b9,AF h9.g0,m1,sl,Tx,d9,d10,gf ve.g0,ag2,wQ ve.g2,st1,rE,wQ h12.g2,aim,gf h12.g0,vrp,vu,SC,lO,st2];refine done V13 (s.cl.set o.c {s.cl[o.c]with co:=(i:Int),rp:=x.rp}) (DV s (oH v)) (h12.Yg (by omega) λd hd=>o13 d (by omega)) (by omega) (by rw[UD];exact AW.bE _ _ _) ((o13 _ (by omega)).trans ((Uh _ (by omega)).trans gB3)) ?_ ?_ hR
  ·rw[yn,ax k3,zS lm]
  ·unfold DV;rw[ahs]
 ·obtain⟨y1,y2⟩:=DL hvz px (.inr (by rw[k4];rfl));obtain⟨j,hj⟩:∃j:Nat,x.lk=(j:Int):=⟨x.lk.toNat,by omega⟩;have O9:j<oH v:=by unfold oH;omega
  have ixl:∀W' kk,iY 1 u2 (.int kk x.lk) W'=some (.pointer (some ⟨B3,j,none⟩),W'):=λW' kk=>by rw[hu2,hj,t7 O9,aK,jR]
  have d9:decide (x.k=2)=false:=fF;have d10:=aY k4;rw[bZ]at hR;have stl:=Wa gB3 O9 0;obtain⟨uJ,vF⟩:∃uJ,uJ=A0.put B3 (.cells (((DV s (oH v)).set j 0).flatMap ka)):=⟨_,rfl⟩;rw[<-vF]at stl;have n12:uJ.next=A0.next:=by rw[vF];rfl
  have Uh:∀d,d≠B3->uJ.get d=A0.get d:=λd hd=>by rw[vF];exact AW.aE _ _ (bL hd)
  simp only[SX,aK,ce,lk,d,lw,ix,L6,b1,b2,Ki,d2,fa yE.g2,gf yE.g0,c1,c3,d3,p1,p2,p3,p4,p5,p6,p7,p8,p9,S9,S2,d5,d6,De,OB,TD,ln,d7,s1,s2e,ll8,EO,DO,d8,b9,AF h9.g0,m1,sl,Tx,d9,d10,XP,YK,ixl,stl];refine done uJ s.cl ((DV s (oH v)).set j 0) (ve.Yg (by omega) λd hd=>Uh d (by omega)) (by omega) ((Uh _ (by omega)).trans gB2) (by rw[vF];exact AW.bE _ _ _) ?_ ?_ hR
  ·rw[yn,bZ]
  ·refine(LC (q:=none) λk=>?_).symm;rw[yd];by_cases e:k=j
   ·simp only[e,hj,bk,ax k4];rw[bZ]
   ·simp only[hj,ay e];rw[bZ]
end
def Xz(v:cT)(s:RS)(x:eg):th v s x=if dM s x≠0 then dM s x else Cx v (vw s x) x:=by rw[Kw];rfl
def U8(s:RS)(x:eg):dM s x=if lK x≠0 then lK x else if x.tn<0\/1000000000<x.tn\/x.wk<1\/64<x.wk then 7 else if x.tn<s.tn\/(oE x=true/\x.tn<=s.st)then 18 else 0:=by
 unfold dM lK;by_cases c1:x.k<1\/6<x.k
 ·simp only[ax c1];rfl
 ·simp only[ay c1];by_cases c2:x≠gB x
  ·simp only[ax c2];rfl
  ·simp only[ay c2,ne_eq,sW,bG]
structure NxH (W:AW) (v:cT) (sv ev cv lv:ae) (s:RS) (l:List eg):Prop where
 c:JC W v s cv lv
 inv:na s
 r:KJ W ev l
 sc:jc W sv v.az
 vl:v.az.length<1000
 w:∀t∈v.az,t.rows.length<1000
 z:(eR v).2=0
 k:∀j id,s.lk j=some id->1<=id
 o:Eng.one sv=true
section
variable {W V U:AW} {v:cT} {sv ev cv lv:ae} {s:RS} {f:Int->Option dZ} {tn st:Int} {l:List eg} {i:Nat} {x:eg} {o:dZ}
def acf(h:wM W V v sv ev cv s.of lv s.tn s.st x)(H:NxH W v sv ev cv lv s l)(hx:l[i]? =some x)(hw:1<=x.wk/\x.wk<=64)(hk:1<=x.k/\x.k<=6):
 Ok (fD bl (.af (i:Int)) (cp W.next) (cp (W.next+1)) (cp (W.next+2)) V) λr=>∃val,r.1=.tuple #[val,.af (Cx v s x)]/\Le W r.2/\CM r.2 W.next cv lv v sv ev val (Cx v s x) (pD s i x):=by
 by_cases c:x.k=1\/x.k=5\/x.k=6\/eF s x≠0
 ·exact aeM h H.c H.inv H.r hx H.sc H.vl H.w H.o hw c
 ·have hn:eF s x=0:=by
   by_cases e:eF s x=0
   ·exact e
   ·exact absurd (.inr (.inr (.inr e))) c
  exact afj h H.c H.inv H.r H.sc H.vl H.w H.z (iW H.z) H.k H.o hw (by omega) hn
def Q8(h:wM W V v sv ev cv s.of lv s.tn s.st x)(H:NxH W v sv ev cv lv s l)(hx:l[i]? =some x){e:Int}(hE:dM s x=e):
 Ok (kK bl (.af (i:Int)) (cp W.next) (cp (W.next+1)) (cp (W.next+2)) (.af e) V) λr=>∃val,r.1=.tuple #[val,.af (th v s x)]/\Le W r.2/\CM r.2 W.next cv lv v sv ev val (th v s x) (Hj s i x):=by
 have h2:Eng.one ev=true:=row_one H.r;have h3:=(eJ H.c.c).2;have h4:=(eJ H.c.l).2;have Th:=h.nx;have Vr:=Xz v s x;unfold kK;by_cases e0:e=0;case neg=>have d:=bu e0;rw[ax (by rw[hE];exact e0),hE]at Vr;obtain⟨U',q1,q2,q3,q4,q5,q6⟩:=h.fin H.o h2 h3 h4 e;simp only[SX,d,q1,q2,q3,am];exact⟨_,by rw[Vr],q4,.bad (by rw[Vr];exact e0) h3 h4⟩
 have d:=aY e0;have hh:dM s x=0:=hE.trans e0;rw[ay (by simpa using hh)]at Vr;obtain⟨hk,-,-,hw,-,-⟩:=uh hh;have XX:=uf h.g2;have s1:=UO h.g0 x.tn;have h1:=h.put cv s.of lv x.tn s.st;obtain⟨V1,C2⟩:∃V1,V1=V.put W.next (.cells (ez v sv ev cv s.of lv x.tn s.st)):=⟨_,rfl⟩;rw[<-C2]at s1 h1;have low:=Q1 x;have la:=kQ h1.g2;have ajb:=uf h1.g2;have H':NxH W v sv ev cv lv (vw s x) l:=⟨⟨H.c.c,H.c.l⟩,⟨H.inv.ids,H.inv.of,H.inv.len,H.inv.wk,H.inv.steps⟩,H.r,H.sc,H.vl,H.w,H.z,H.k,H.o⟩;have fin:∀{r:ae×AW},(∃val,r.1=.tuple #[val,.af (Cx v (vw s x) x)]/\Le W r.2/\CM r.2 W.next cv lv v sv ev val (Cx v (vw s x) x) (pD (vw s x) i x))->∃val,r.1=.tuple #[val,.af (th v s x)]/\Le W r.2/\CM r.2 W.next cv lv v sv ev val (th v s x) (Hj s i x):=by
  rintro r ⟨val,a1,a2,a3⟩;refine⟨val,by rw[Vr];exact a1,a2,?_⟩;obtain⟨nG,Bi,f',Q6,I0,b1,b2,b3,b4⟩:=a3;refine⟨nG,Bi,f',Q6,I0,b1,b2,b3,λhe=>?_⟩;rw[Vr]at he;have hn:eF s x=0:=by
   by_cases e:eF s x=0
   ·exact e
   ·unfold Cx at he;rw[ax (show eF (vw s x) x≠0 from e)]at he;exact he
  rw[RK hn];exact b4 he
 cases ho:oE x with
 |true=>
  rw[ho]at low;have s2:=TY h1.g0 x.tn;have hp:=h1.put cv s.of lv x.tn x.tn;obtain⟨V2,CE⟩:∃V2,V2=V1.put W.next (.cells (ez v sv ev cv s.of lv x.tn x.tn)):=⟨_,rfl⟩;rw[<-CE]at s2 hp;have e1:(vw s x).st=x.tn:=by unfold vw;simp only[ho,bk]
  have MY:wM W V2 v sv ev cv (vw s x).of lv (vw s x).tn (vw s x).st x:=by rw[e1];exact hp
  simp only[SX,d,aK,XX,s1,la,low,ajb,s2];exact Ok.mono (acf MY H' hx hw hk) λr=>fin
 |false=>
  rw[ho]at low;have e1:(vw s x).st=s.st:=by unfold vw;simp only[ho,fJ,bG]
  have MY:wM W V1 v sv ev cv (vw s x).of lv (vw s x).tn (vw s x).st x:=by rw[e1];exact h1
  simp only[SX,d,aK,XX,s1,la,low];exact Ok.mono (acf MY H' hx hw hk) λr=>fin
def YN(h:wM W V v sv ev cv s.of lv s.tn s.st x)(H:NxH W v sv ev cv lv s l)(hx:l[i]? =some x){e:Int}(hE:dM s x=if e≠0 then e else if x.tn<s.tn\/(oE x=true/\x.tn<=s.st)then 18 else 0):
 Ok (iM bl (.af (i:Int)) (cp W.next) (cp (W.next+1)) (cp (W.next+2)) (.af e) V) λr=>∃val,r.1=.tuple #[val,.af (th v s x)]/\Le W r.2/\CM r.2 W.next cv lv v sv ev val (th v s x) (Hj s i x):=by
 unfold iM;by_cases e0:e=0;case neg=>have d:=bu e0;rw[ax e0]at hE;simp only[SX,d,wu1,wu2];exact Q8 h H hx hE
 have d:=aY e0;rw[ay (by simpa using e0)]at hE;have XX:=uf h.g2;have ZX:=Yf h.g0;have lss:=Xx h.g0;have la:=kQ h.g2;have low:=Q1 x;by_cases c1:x.tn<s.tn
 ·have d1:=aY c1;rw[ax (.inl c1)]at hE;simp only[SX,d,wu2,XX,ZX,d1];exact Q8 h H hx hE
 have d1:=bu c1;cases ho:oE x with
 |false=>rw[ho]at low hE;rw[ay (by simp;omega)]at hE;simp only[SX,d,XX,ZX,d1,la,low];rw[e0];exact Q8 h H hx hE
 |true=>
  rw[ho]at low hE;by_cases c2:x.tn<=s.st
  ·have d2:=aY c2;rw[ax (.inr ⟨rfl,c2⟩)]at hE;simp only[SX,d,XX,ZX,lss,d1,la,low,d2];exact Q8 h H hx hE
  ·have d2:=bu c2;rw[ay (by simp;omega)]at hE;simp only[SX,d,XX,ZX,lss,d1,la,low,d2];rw[e0];exact Q8 h H hx hE
def T6(H:NxH W v sv ev cv lv s l)(hx:l[i]? =some x):
 ∃val W',bl (.func (.func 38) #[] #[]) [sy v sv ev cv s.of lv s.tn s.st,.af (i:Int)] W=some (.tuple #[val,.af (th v s x)],W')/\Le W W'/\CM W' W.next cv lv v sv ev val (th v s x) (Hj s i x):=by
 refine SG ?_ C9;unfold Ai;obtain⟨V1,V2,V3,k1,k2,k3,k4,k5,k6,k7,k8,k9,g0,g1,g2⟩:=Ec v sv ev cv s.of lv s.tn s.st x W;have h:wM W V3 v sv ev cv s.of lv s.tn s.st x:=⟨k3.trans k7,by omega,g0,g1,g2⟩;obtain⟨hi,Va⟩:=dV.1 hx;obtain⟨p,p1,p2⟩:=H.r.get hi;rw[Va]at p2;have le:=Kk k9;have lw:=eK g2;have lt:=uf g2;have la:=kQ g2;have fo:=NF x;have hF:=U8 s x;by_cases c1:lK x=0;case neg=>have d:=bu c1;rw[ax c1]at hF;simp only[SX,k1,k2,aK,ce,le,p1,p2 _ k3,k5,k6,la,fo,d,wu1];exact YN h H hx (by rw[hF,ax c1])
 have d:=aY c1;rw[ay (by simpa using c1)]at hF;have bad:(x.tn<0\/1000000000<x.tn\/x.wk<1\/64<x.wk)->Ok (iM bl (.af (i:Int)) (cp W.next) (cp (W.next+1)) (cp (W.next+2)) (.af 7) V3) λr=>∃val,r.1=.tuple #[val,.af (th v s x)]/\Le W r.2/\CM r.2 W.next cv lv v sv ev val (th v s x) (Hj s i x):=λc=>YN h H hx (by rw[hF,ax c,ax (by decide)])
 by_cases c2:x.tn<0
 ·have d2:=aY c2;simp only[SX,k1,k2,aK,ce,le,p1,p2 _ k3,k5,k6,la,fo,d,lt,d2];exact bad (.inl c2)
 have d2:=bu c2;by_cases c3:1000000000<x.tn
 ·have d3:=aY c3;simp only[SX,k1,k2,aK,ce,le,p1,p2 _ k3,k5,k6,la,fo,d,lt,d2,d3];exact bad (.inr (.inl c3))
 have d3:=bu c3;by_cases c4:x.wk<1
 ·have d4:=aY c4;simp only[SX,k1,k2,aK,ce,le,p1,p2 _ k3,k5,k6,la,fo,d,lt,d2,d3,lw,d4];exact bad (.inr (.inr (.inl c4)))
 have d4:=bu c4;by_cases c5:64<x.wk
 ·have d5:=aY c5;simp only[SX,k1,k2,aK,ce,le,p1,p2 _ k3,k5,k6,la,fo,d,lt,d2,d3,lw,d4,d5];exact bad (.inr (.inr (.inr c5)))
 have d5:=bu c5;rw[bZ]at hF;simp only[SX,k1,k2,aK,ce,le,p1,p2 _ k3,k5,k6,la,fo,d,lt,d2,d3,lw,d4,d5];exact YN h H hx (by rw[ay (show¬lK x≠0 fromλe=>e c1)];exact hF)
end
abbrev stZ:ae:=sy lA bn bn bn zf bn 0 0
def DnA(W':AW)(v:cT)(sv ev:ae)(l:List eg)(val:ae)(a e:Int):Prop:=
 uu v l a e/\((e≠0/\val=stZ)\/(e=0/\∃s cv lv,fk v l l.length s/\val=sy v sv ev cv s.of lv s.tn s.st/\Eng.one cv=true/\Eng.one lv=true/\JC W' v s cv lv))
section
variable {W V U:AW} {v:cT} {sv ev cv lv:ae} {s:RS} {l:List eg} {i:Nat} {x:eg}
def Rl{b2:Nat}{cs:List ae}(g2:U.get b2=some (.cells cs))(hl:cs.length=204)(a e:Int):
 ∃U',bU 204 (cp b2) stZ U=some (ag,U')/\aD Tryz.prog [(cp b2,some 88),(.af a,none),(.af e,none)] U'=some (.tuple #[stZ,.af a,.af e],U')/\U'.next=U.next/\∀d,d≠b2->U'.get d=U.get d:=by
 refine⟨_,iU g2 hl rfl rfl rfl rfl,?_,rfl,λd hd=>AW.aE _ _ (bL hd)⟩;rw[BO,MF,gU (AW.bE _ _ _)];rfl
structure DnB (V U:AW) (v:cT) (sv ev:ae) (l:List eg) (b2 b7 i:Nat) (s:RS) (cv lv:ae):Prop where
 le:Le V U
 lo:V.next<=b7/\b7<U.next
 g7:U.get b7=some (.cells (ez v sv ev cv s.of lv s.tn s.st))
 run:fk v l i s
 c:JC U v s cv lv
 a7:av b7 cv/\av b7 lv
 a2:av b2 cv/\av b2 lv
def F4{K:LT->Option (ae×AW)}{Q:ae×AW->Prop}{R0:Nat->ae}{b1 b2 b7:Nat}(hr:KJ V ev l)(hs:eX V sv v.az)(hv:v.az.length<1000)(hw:∀s∈v.az,s.rows.length<1000)(hz:(eR v).2=0)(hl:l.length<=2000)(hb:b1<V.next/\b2<V.next)(g1:V.get b1=some (.cells (Lj v sv ev))){cs:List ae}(g2:V.get b2=some (.cells cs))(nK:cs.length=204)
 (h:DnB V U v sv ev l b2 b7 0 s cv lv)(r1:R0 1=cp b1)(r2:R0 2=cp b2)(r7:R0 7=cp b7)(r8:R0 8=.af 0)
 (hK0:∀R U s cv lv,DnB V U v sv ev l b2 b7 l.length s cv lv->R 2=cp b2->R 7=cp b7->Ok (K (.exit 0,R,U)) Q)
 (hK1:∀R U k s x,fk v l k s->l[k]? =some x->th v s x≠0->(∀d,d<V.next->d≠b2->U.get d=V.get d)->V.next<=U.next->U.get b2=some (.cells (ez lA bn bn bn zf bn 0 0))->R 2=cp b2->R 3=.af (k:Int)->R 4=.af (th v s x)->Ok (K (.ret,R,U)) Q):
 Ok (aj (du (kJ bl) R0 U) K) Q:=by
 have h1:Eng.one sv=true:=row_one hs.1;have h2:Eng.one ev=true:=row_one hr;refine cx l.length (by omega) (λi R U=>R 1=cp b1/\R 2=cp b2/\R 7=cp b7/\R 8=.af (i:Int)/\∃s cv lv,DnB V U v sv ev l b2 b7 i s cv lv)
  (λr=>(r.1=.exit 0/\r.2.1 2=cp b2/\r.2.1 7=cp b7/\∃s cv lv,DnB V r.2.2 v sv ev l b2 b7 l.length s cv lv)\/(r.1=.ret/\∃k s x,fk v l k s/\l[k]? =some x/\th v s x≠0/\(∀d,d<V.next->d≠b2->r.2.2.get d=V.get d)/\V.next<=r.2.2.next/\r.2.2.get b2=some (.cells (ez lA bn bn bn zf bn 0 0))/\r.2.1 2=cp b2/\r.2.1 3=.af (k:Int)/\r.2.1 4=.af (th v s x)))
  ⟨r1,r2,r7,r8,_,_,_,h⟩ ?_ ?_ ?_
 ·rintro i R U hi ⟨r1,r2,r7,r8,s,cv,lv,h⟩;unfold kJ;have t1:decide ((i:Int)<(l.length:Int))=true:=pd;have t2:=λW'=>dP W' i 1
  have e3:((i+1:Nat):Int)=(i:Int)+1:=by omega
  have M6:aJ (.pointer (some ⟨b1,4,none⟩)) U=some (ev,U):=gH ((h.le.get _ hb.1).trans g1) rfl;have ln:∀W',aG Tryz.prog .len #[25] 3 #[false] [ev] W'=some (.af (l.length:Int),W'):=λW'=>Row.len hr FH W' 3 #[false]
  have yd:=h.lo;have Yn:=h.le.next;have H:NxH U v sv ev cv lv s l:=⟨h.c,h.run.inv,hr.mono h.le,hs.1.mono h.le,hv,hw,hz,h.run.lks,h1⟩;have hx:l[i]? =some l[i]:=dm hi;generalize l[i]=x at *;obtain⟨val,W',k1,k2,nG,Bi,f',Q6,I0,rfl,k3,k4,k5⟩:=T6 H hx;have hkn:=k2.next;have a88:=G7 W';have pt:=iU (v:=v) (sv:=sv) (ev:=ev) (cv:=nG) (f:=f') (lv:=Bi) (tn:=Q6) (st:=I0) (AW.a8 W' (.cells (ez lA bn bn bn zf bn 0 0))) dz h1 h2 k3 k4;rw[im]at pt;obtain⟨V1,C2⟩:∃V1,V1=W'.add (.cells (ez v sv ev nG f' Bi Q6 I0)):=⟨_,rfl⟩;rw[<-C2]at pt;have l1:Le W' V1:=by rw[C2];exact(Le.refl _).add _
  have n1:V1.next=W'.next+1:=by rw[C2];rfl
  have gv:V1.get W'.next=some (.cells (ez v sv ev nG f' Bi Q6 I0)):=by rw[C2];exact AW.a8 _ _
  have lU:Le U V1:=k2.trans l1;by_cases c:th v s x=0
  ·have d:=aY c;obtain⟨rfl,rfl,rfl,q4,q5,q6⟩:=k5 c;have p7:=iU (v:=v) (sv:=sv) (ev:=ev) (cv:=nG) (f:=(Hj s i x).of) (lv:=Bi) (tn:=(Hj s i x).tn) (st:=(Hj s i x).st) ((lU.get _ yd.2).trans h.g7) dz h1 h2 k3 k4;obtain⟨V2,CE⟩:∃V2,V2=V1.put b7 (.cells (ez v sv ev nG (Hj s i x).of Bi (Hj s i x).tn (Hj s i x).st)):=⟨_,rfl⟩;rw[<-CE]at p7;have n2:V2.next=V1.next:=by rw[CE];rfl
   have o2:∀d,d≠b7->V2.get d=V1.get d:=λd hd=>by rw[CE];exact AW.aE _ _ (bL hd)
   simp only[SX,r1,r7,r8,M6,ln,t1,gU h.g7,k1,a88,pt,d,gU gv,p7,t2,aK,am];have avf:∀{q:Nat} {c0 c1:ae},q<U.next->av q c0->OU U.next c0 c1->av q c1:=λ{q c0 c1} hq ha hf a k m e hk=>by
    rcases hf with rfl|hf
    ·exact ha a k m e hk
    ·have:=hf a k m e;omega
   refine .inl ⟨aB,r1,r2,r7,by rw[e3];rfl,_,nG,Bi,⟨⟨by omega,λd hd=>(o2 d (by omega)).trans ((lU.get d (by omega)).trans (h.le.get d hd))⟩,⟨yd.1,by omega⟩,by rw[CE];exact AW.bE _ _ _,.succ h.run hx c,⟨?_,?_⟩,⟨avf yd.2 h.a7.1 q5,avf yd.2 h.a7.2 q6⟩,⟨avf (by omega) h.a2.1 q5,avf (by omega) h.a2.2 q6⟩⟩⟩
   ·exact yc (q4.c.dK l1) q5 h.a7.1 yd.2 (by omega) o2
   ·exact yc (q4.l.dK l1) q6 h.a7.2 yd.2 (by omega) o2
  ·have d:=bu c;have W9:V1.get b2=some (.cells cs):=((h.le.trans lU).get _ hb.2).trans g2;have p2:=iU (v:=lA) (sv:=bn) (ev:=bn) (cv:=bn) (f:=zf) (lv:=bn) (tn:=0) (st:=0) W9 nK rfl rfl rfl rfl;obtain⟨V2,CE⟩:∃V2,V2=V1.put b2 (.cells (ez lA bn bn bn zf bn 0 0)):=⟨_,rfl⟩;rw[<-CE]at p2;simp only[SX,r1,r2,r7,r8,M6,ln,t1,gU h.g7,k1,a88,pt,d,QU,p2,aK,am];refine .inr ⟨by simp,.inr ⟨aB,i,s,x,h.run,hx,c,λd hd hd2=>?_,?_,by rw[CE];exact AW.bE _ _ _,r2,rfl,rfl⟩⟩
   ·show V2.get d=V.get d;rw[CE,AW.aE _ _ (bL hd2)];exact(h.le.trans lU).get d hd
   ·show V.next<=V2.next;rw[CE,AW.cG];omega
 ·rintro R U ⟨r1,r2,r7,r8,s,cv,lv,h⟩;unfold kJ;have t1:decide ((l.length:Int)<(l.length:Int))=false:=fF;have M6:aJ (.pointer (some ⟨b1,4,none⟩)) U=some (ev,U):=gH ((h.le.get _ hb.1).trans g1) rfl;have ln:∀W',aG Tryz.prog .len #[25] 3 #[false] [ev] W'=some (.af (l.length:Int),W'):=λW'=>Row.len hr FH W' 3 #[false]
  simp only[SX,r1,r8,M6,ln,t1,aK,am];exact⟨by simp,.inl ⟨aB,r2,r7,s,cv,lv,h⟩⟩
 ·rintro⟨e,R,U⟩ (⟨rfl,q2,q7,s,cv,lv,q⟩|⟨rfl,k,s,x,y1,y2,y3,y4,y5,y6,y7,y8,y9⟩)
  ·exact hK0 R U s cv lv q q2 q7
  ·exact hK1 R U k s x y1 y2 y3 y4 y5 y6 y7 y8 y9
end
def QJ(q:Nat):av q bn:=λa k m e _=>by injection e with e;cases e
section
variable {W V U:AW} {v:cT} {sv ev cv lv:ae} {s:RS} {l:List eg} {i:Nat} {x:eg}
def K2(h:O5 W v sv ev l):∃val a e W',bl (.func (.func 25) #[] #[]) [BS v sv ev] W=some (.tuple #[val,.af a,.af e],W')/\Le W W'/\DnA W' v sv ev l val a e:=by
 have h1:Eng.one sv=true:=row_one h.az.1;have h2:Eng.one ev=true:=row_one h.WM;have kw:Ok (uj bl (BS v sv ev) W) λr=>∃val a e,r.1=.tuple #[val,.af a,.af e]/\Le W r.2/\DnA r.2 v sv ev l val a e:=by
  unfold uj;obtain⟨V,bx,bi,nV,g0⟩:=sf v sv ev W;obtain⟨V1,C2⟩:∃V1,V1=V.add (.cells (ez lA bn bn bn zf bn 0 0)):=⟨_,rfl⟩;have l1:Le V V1:=by rw[C2];exact(Le.refl _).add _
  have n1:V1.next=V.next+1:=by rw[C2];rfl
  have a1:=G7 V;rw[<-C2]at a1;have g11:V1.get V.next=some (.cells (ez lA bn bn bn zf bn 0 0)):=by rw[C2];exact AW.a8 _ _
  have g10:=(l1.get _ (by omega)).trans g0;have Ik:Le W V1:=bi.trans l1;have l4:bA 4 (cp W.next) V1=some (gW v sv,V1):=fy (bm g10) rfl;have l5:=jQ g10;have M6:aJ (.pointer (some ⟨W.next,4,none⟩)) V1=some (ev,V1):=gH g10 rfl;have ck:=te (h.az.1.mono Ik) h.small h.rows;have ln:∀W',aG Tryz.prog .len #[25] 3 #[false] [ev] W'=some (.af (l.length:Int),W'):=λW'=>Row.len h.WM FH W' 3 #[false]
  by_cases c1:(eR v).2=0;case neg=>have d1:=bu c1;obtain⟨U',q1,q2,q3,q4⟩:=Rl g11 dz (-1) (eR v).2;simp only[SX,bx,a1,aK,l4,ck,d1,QU,q1,q2,am];exact⟨_,_,_,rfl,⟨by omega,λd hd=>(q4 d (by omega)).trans (Ik.get d hd)⟩,.VV c1,.inl ⟨c1,rfl⟩⟩
  have d1:=aY c1;by_cases c2:2000<l.length
  ·have d2:decide ((2000:Int)<(l.length:Int))=true:=pd;obtain⟨U',q1,q2,q3,q4⟩:=Rl g11 dz (-1) 3;simp only[SX,bx,a1,aK,l4,ck,d1,M6,ln,d2,QU,q1,q2,am];exact⟨_,_,_,rfl,⟨by omega,λd hd=>(q4 d (by omega)).trans (Ik.get d hd)⟩,.len c1 c2,.inl ⟨by decide,rfl⟩⟩
  have d2:decide ((2000:Int)<(l.length:Int))=false:=fF;obtain⟨lv,V2,b1,b2,b3,b4⟩:=Qn (h.az.mono Ik) h2 h.small (iW c1);have iu:=b2.next;have a3:=G7 V2;have h4:=(eJ b3.l).2;have pt:=iU (v:=v) (sv:=sv) (ev:=ev) (cv:=bn) (f:=(RS.init).of) (lv:=lv) (tn:=0) (st:= -1) (AW.a8 V2 (.cells (ez lA bn bn bn zf bn 0 0))) dz h1 h2 rfl h4;rw[im]at pt;obtain⟨V3,U9⟩:∃V3,V3=V2.add (.cells (ez v sv ev bn (RS.init).of lv 0 (-1))):=⟨_,rfl⟩;rw[<-U9]at pt;have l3:Le V2 V3:=by rw[U9];exact(Le.refl _).add _
  have n3:V3.next=V2.next+1:=by rw[U9];rfl
  have WI:Le W V2:=Ik.trans b2;have hD:DnB V2 V3 v sv ev l V.next V2.next 0 RS.init bn lv:=⟨l3,⟨aS _,by omega⟩,by rw[U9];exact AW.a8 _ _,.zero,b3.mono l3,⟨QJ _,St b3.l (aS _)⟩,⟨QJ _,λa k m e hk=>by have:=b4 a k m e;omega⟩⟩;simp only[SX,bx,a1,aK,l4,ck,d1,M6,ln,d2,l5,b1,a3,pt];refine F4 (V:=V2) (b1:=W.next) (b2:=V.next) (b7:=V2.next) (h.WM.mono WI) (h.az.mono WI) h.small h.rows c1 (by omega) ⟨by omega,by omega⟩ ((b2.get _ (by omega)).trans g10) ((b2.get _ (by omega)).trans g11) dz hD rfl rfl rfl rfl ?_ ?_
  ·intro R U s cv lv g q2 q7;have yd:=g.lo;have hgn:=g.le.next;have k3:=(eJ g.c.c).2;have k4:=(eJ g.c.l).2;have g2:U.get V.next=some (.cells (ez lA bn bn bn zf bn 0 0)):=(g.le.get _ (by omega)).trans ((b2.get _ (by omega)).trans g11);have p2:=iU (v:=v) (sv:=sv) (ev:=ev) (cv:=cv) (f:=s.of) (lv:=lv) (tn:=s.tn) (st:=s.st) g2 dz h1 h2 k3 k4;obtain⟨U2,ki⟩:∃U2,U2=U.put V.next (.cells (ez v sv ev cv s.of lv s.tn s.st)):=⟨_,rfl⟩;rw[<-ki]at p2;have o2:∀d,d≠V.next->U2.get d=U.get d:=λd hd=>by rw[ki];exact AW.aE _ _ (bL hd)
   have n2:U2.next=U.next:=by rw[ki];rfl
   have gr:bA 204 (cp V.next) U2=_:=gU (W:=U2) (by rw[ki];exact AW.bE _ _ _);simp only[SX,q2,q7,gU g.g7,p2,BO,MF,gr,bq,am];refine⟨_,_,_,rfl,⟨by omega,λd hd=>(o2 d (by omega)).trans ((g.le.get d (by omega)).trans (WI.get d hd))⟩,.ok c1 (by omega) g.run,.inr ⟨rfl,s,cv,lv,g.run,rfl,k3,k4,?_,?_⟩⟩
   ·exact yc (n:=V.next+1) g.c.c (.inl rfl) g.a2.1 (by omega) (by omega) o2
   ·exact yc (n:=V.next+1) g.c.l (.inl rfl) g.a2.2 (by omega) (by omega) o2
  ·intro R U k s x eA hx he hg hn g2 q2 q3 q4;simp only[SX,q2,q3,q4,BO,MF,gU g2,bq,am];exact⟨_,_,_,rfl,⟨by omega,λd hd=>(hg d (by omega) (by omega)).trans (WI.get d hd)⟩,.bad c1 (by omega) eA hx he,.inl ⟨he,rfl⟩⟩
 obtain⟨q,W',k1,val,a,e,rfl,k2,k3⟩:=wb (Q:=λq W'=>∃val a e,q=.tuple #[val,.af a,.af e]/\Le W W'/\DnA W' v sv ev l val a e) kw C6
  (λq W' ⟨val,a,e,e1,k2,k3,k4⟩ bi hp=>⟨val,a,e,e1,.refl _,k3,by
    rcases k4 with k4|⟨h0,s,cv,lv,r1,rfl,r2,r3,r4⟩
    ·exact .inl k4
    ·refine .inr ⟨h0,s,cv,lv,r1,rfl,r2,r3,?_⟩;subst e1;have ZI:(ez v sv ev cv s.of lv s.tn s.st).all cJ=true:=by simp only[bI,eP,md,lO,bB,fY]at hp;exact hp.1
     rw[cr]at ZI;have hlv:=ZI lv (oA (pm (v:=v) (sv:=sv) (ev:=ev) (cv:=cv) (f:=s.of) (lv:=lv) (tn:=s.tn) (st:=s.st) 0));have VJ:=ZI cv (oA (i:=5) rfl);exact⟨sH r4.c VJ,sH r4.l hlv⟩⟩)
 exact⟨val,a,e,W',k1,k2,k3⟩
def DnA.put{val:ae}{a e:Int}(h1:Eng.one sv=true)(h2:Eng.one ev=true)(h:DnA W v sv ev l val a e):∃(v':cT) (Wb WL nG Bi:ae) (f:Int->Option dZ) (tn st:Int),val=sy v' Wb WL nG f Bi tn st/\Eng.one Wb=true/\Eng.one WL=true/\Eng.one nG=true/\Eng.one Bi=true/\(e=0->∃s,fk v l l.length s/\Rd W 26 fG nG s.cl):=by
 obtain⟨-,⟨he,rfl⟩|⟨he,s,cv,lv,r1,rfl,r2,r3,r4⟩⟩:=h
 ·exact⟨_,_,_,_,_,_,_,_,rfl,rfl,rfl,rfl,rfl,λe=>absurd e he⟩
 ·exact⟨_,_,_,_,_,_,_,_,rfl,h1,h2,r2,r3,λ_=>⟨s,r1,r4.c⟩⟩
def Mo(h:O5 W v sv ev l):∃a e:Int,uu v l a e/\bl (.func (.func 9) #[] #[]) [BS v sv ev] W=some (.tuple #[.af a,.af e],W):=by obtain⟨V,bx,bi,nV,g0⟩:=sf v sv ev W;obtain⟨val,a,e,W',k1,k2,k3⟩:=K2 (h.mono bi);obtain⟨v',Wb,WL,nG,Bi,f,tn,st,rfl,i1,i2,i3,i4,-⟩:=k3.put (row_one h.az.1) (row_one h.WM);refine⟨a,e,k3.1,bS rfl ?_ Aq⟩;unfold yi;have a1:=G7 W';have pt:=iU (v:=v') (sv:=Wb) (ev:=WL) (cv:=nG) (f:=f) (lv:=Bi) (tn:=tn) (st:=st) (AW.a8 W' (.cells (ez lA bn bn bn zf bn 0 0))) dz i1 i2 i3 i4;rw[im]at pt;simp only[SX,bx,jQ g0,k1,a1,pt,am];exact⟨aB,(bi.trans k2).add _⟩
def Hg(h:O5 W v sv ev l):∃(a e:Int) (u:ae) (W':AW),uu v l a e/\bl (.func (.func 11) #[] #[]) [BS v sv ev] W=some (.tuple #[u,.af e],W')/\Le W W'/\((e≠0/\u=.slice none 0 0)\/(e=0/\∃s,fk v l l.length s/\Jk W' u s.cl)):=by
 obtain⟨V,bx,bi,nV,g0⟩:=sf v sv ev W;obtain⟨val,a,e,W',k1,k2,k3⟩:=K2 (h.mono bi);obtain⟨v',Wb,WL,nG,Bi,f,tn,st,rfl,i1,i2,i3,i4,i5⟩:=k3.put (row_one h.az.1) (row_one h.WM);have kw:Ok (sq bl (BS v sv ev) W) λr=>∃u,r.1=.tuple #[u,.af e]/\Le W r.2/\((e≠0/\u=.slice none 0 0)\/(e=0/\∃s,fk v l l.length s/\Jk r.2 u s.cl)):=by
  unfold sq;have a1:=G7 W';have pt:=iU (v:=v') (sv:=Wb) (ev:=WL) (cv:=nG) (f:=f) (lv:=Bi) (tn:=tn) (st:=st) (AW.a8 W' (.cells (ez lA bn bn bn zf bn 0 0))) dz i1 i2 i3 i4;rw[im]at pt;have qN:Le W' (W'.add (.cells (ez v' Wb WL nG f Bi tn st))):=(Le.refl _).add _;by_cases c:e=0
  ·have d:=aY c;obtain⟨s,j1,j2⟩:=i5 c;have lc:=gf (AW.a8 W' (.cells (ez v' Wb WL nG f Bi tn st)));simp only[SX,bx,jQ g0,k1,a1,pt,d,lc,am];exact⟨_,by rw[c],(bi.trans k2).trans qN,.inr ⟨c,s,j1,BM cQ (j2.dK qN)⟩⟩
  ·have d:=bu c;simp only[SX,bx,jQ g0,k1,a1,pt,d,am];exact⟨_,rfl,(bi.trans k2).trans qN,.inl ⟨c,rfl⟩⟩
 obtain⟨q',W2,h1,u,rfl,h2,h3⟩:=wb (Q:=λq W'=>∃u,q=.tuple #[u,.af e]/\Le W W'/\((e≠0/\u=.slice none 0 0)\/(e=0/\∃s,fk v l l.length s/\Jk W' u s.cl))) kw Bp
  (λq W' ⟨u,e1,a,b⟩ bi hp=>⟨u,e1,.refl _,by
    subst e1;rcases b with b|⟨h0,s,hr,hc⟩
    ·exact .inl b
    ·refine .inr ⟨h0,s,hr,?_⟩;obtain⟨a',c',rfl,hc⟩:=hc;refine⟨a',c',rfl,?_⟩;rcases hc with hc|⟨b0,o0,cs,rfl,-⟩
     ·exact .inl hc
     ·simp[bI,fY,cJ]at hp⟩)
 exact⟨a,e,u,W2,k3.1,h1,h2,h3⟩
end
def xL(l:List Int):Int:=iE (l.map λn=>if 0<n/\n<=100 then n else 0)
def Do{l:List Int}{k:Nat}(hk:k<l.length):xL (l.take (k+1))=xL (l.take k)+(if 0<l[k]/\l[k]<=100 then l[k]else 0):=by unfold xL;rw[zI,dm hk,Option.toList_some,pL,i6,mY,Ca]
def Cl(l:List Int)(k:Nat):0<=xL (l.take k)/\xL (l.take k)<=100*k:=by
 induction k with
 |zero=>simp[xL,iE]
 |succ k ih=>
  by_cases hk:k<l.length
  ·rw[Do hk];split<;>omega
  ·rw[oc (show l.length<=k by omega)]at ih;rw[oc (show l.length<=k+1 by omega)];omega
def wH(l:List jr):Int:=iE (l.map λs=>xL s.rows)
def Gq{l:List jr}{k:Nat}(hk:k<l.length):wH (l.take (k+1))=wH (l.take k)+xL l[k].rows:=by unfold wH;rw[zI,dm hk,Option.toList_some,pL,i6,mY,Ca]
def Mi(l:List jr)(h:∀s∈l,s.rows.length<=20)(k:Nat):0<=wH (l.take k)/\wH (l.take k)<=2000*k:=by
 induction k with
 |zero=>simp[wH,iE]
 |succ k ih=>
  by_cases hk:k<l.length
  ·rw[Gq hk];have h1:=Cl l[k].rows l[k].rows.length;rw[dN]at h1;have:=h _ (gd hk);omega
  ·rw[oc (show l.length<=k by omega)]at ih;rw[oc (show l.length<=k+1 by omega)];omega
def SZ:((#[22]:Array ai)[0]?).bind Tryz.prog.underlying=some (.slice 66):=by kernel_rfl
def aeJ(v:cT):Prop:=v.az.length<=10/\(∀s∈v.az,s.rows.length<=20)/\wH v.az<=200
def Ny{v:cT}{sv:ae}{W:AW}(hs:jc W sv v.az):∃b,bl (.func (.func 20) #[] #[]) [gW v sv] W=some (.bool b,W)/\(b=false->aeJ v):=by
 have kw:Ok (xr bl (gW v sv) W) λr=>∃b,r.1=.bool b/\Le W r.2/\(b=false->aeJ v):=by
  unfold xr;obtain⟨W1,hB,bi,hn,c4,c0,c3⟩:=fP v sv W;have ze:=hs.mono bi;have LZ:=bi.next;have j8:∀(k:Nat) (W':AW),k<1000000->aw Tryz.prog .add 3 false true (.af (k:Int)) (.af 1) W'=some (.af ((k+1:Nat):Int),W'):=λk W' hk=>cY (by omega) (by omega)
  simp only[SX,hB,c3 _ (.refl _),ze.len SZ];by_cases t0:10<(v.az.length:Int)
  ·simp only[SX,aY t0,am];exact⟨_,rfl,bi,λhb=>by cases hb⟩
  simp only[SX,bu t0];have hl:v.az.length<=10:=by omega
  refine cx v.az.length (by omega) (λi R W'=>Le W1 W'/\R 1=.pointer (some ⟨W.next,0,none⟩)/\R 3=.af (wH (v.az.take i))/\R 4=.af (i:Int)/\∀j (h:j<v.az.length),j<i->v.az[j].rows.length<=20)
   (λr=>Le W1 r.2.2/\((r.1=.exit 0/\r.2.1 3=.af (wH v.az)/\∀s∈v.az,s.rows.length<=20)\/(r.1=.ret/\r.2.1 2=.bool true))) ⟨.refl _,rfl,rfl,rfl,λj h hj=>by omega⟩ ?_ ?_ ?_
  ·rintro i R W' hi ⟨FK,f1,f3,f4,hj⟩;unfold pT;have e1:((i:Int)<(v.az.length:Int)):=by omega
   obtain⟨b,o,rv,p1,p2,p3,p4,p5,-⟩:=ze.get hi;have hlw:=FK.next;have N8:aI (W'.add (.cells [.string (aQ v.az[i].name),rv,.af v.az[i].q])) W'.next=some [.string (aQ v.az[i].name),rv,.af v.az[i].q]:=bp;simp only[SX,f1,f4,aK,c3 _ FK,ze.len SZ,e1,p1,p3 _ FK,Up,Pd bQ (mV _) (Row.one p2) (pF _ _),dC];have l2:Le W1 (W'.add (.cells [.string (aQ v.az[i].name),rv,.af v.az[i].q])):=FK.add _;have n2:(W'.add (.cells [.string (aQ v.az[i].name),rv,.af v.az[i].q])).next=W'.next+1:=AW.aL _ _;generalize WI:W'.add (.cells [.string (aQ v.az[i].name),rv,.af v.az[i].q])=W2 at *;have d0:∀W3,Le W2 W3->aJ (.pointer (some ⟨W'.next,0,none⟩)) W3=some (.string (aQ v.az[i].name),W3):=λW3 h3=>cU (by rw[h3.aI (by omega)];exact N8) rfl
   have d1:∀W3,Le W2 W3->aJ (.pointer (some ⟨W'.next,1,none⟩)) W3=some (rv,W3):=λW3 h3=>cU (by rw[h3.aI (by omega)];exact N8) rfl
   simp only[SX,d1 _ (.refl _),p2.len tp];by_cases t1:20<(v.az[i].rows.length:Int)
   ·simp only[SX,aY t1,am];exact .inr ⟨by simp,l2,.inr ⟨aB,rfl⟩⟩
   simp only[SX,bu t1,d0 _ (.refl _),ee oG];by_cases t2:100<(v.az[i].name.length:Int)
   ·simp only[SX,aY t2,am];exact .inr ⟨by simp,l2,.inr ⟨aB,rfl⟩⟩
   simp only[SX,bu t2];have aio:∀s∈v.az.take i,s.rows.length<=20:=λs hs=>by obtain⟨j,hj2,rfl⟩:=vj hs;rw[fT]at hj2;rw[List.getElem_take];exact hj j (by omega) (by omega)
   have Cs:=Mi (v.az.take i) aio i;rw[uS,Nat.min_self]at Cs;refine cx v.az[i].rows.length (by omega) (λk R X=>X=W2/\R 1=.pointer (some ⟨W.next,0,none⟩)/\R 3=.af (wH (v.az.take i)+xL (v.az[i].rows.take k))/\R 4=.af (i:Int)/\R 5=.pointer (some ⟨W'.next,0,none⟩)/\R 6=.af (k:Int))
    (λr=>r.2.2=W2/\r.1=.exit 2/\r.2.1 1=.pointer (some ⟨W.next,0,none⟩)/\r.2.1 3=.af (wH (v.az.take i)+xL v.az[i].rows)/\r.2.1 4=.af (i:Int)) ⟨rfl,f1,by rw[show xL (v.az[i].rows.take 0)=0 from rfl,kT];exact f3,f4,rfl,rfl⟩ ?_ ?_ ?_
   ·rintro k R W3 hk ⟨rfl,g1,g3,g4,g5,g6⟩;unfold ly;have e2:((k:Int)<(v.az[i].rows.length:Int)):=by omega
    obtain⟨p,q1,q2⟩:=p2.get hk;have hkb:=Cl v.az[i].rows k;have ht:=Do hk;simp only[SX,g3,g5,g6,aK,d1 _ (.refl _),p2.len tp,e2,q1,q2 _ l2];by_cases t3:0<v.az[i].rows[k];case neg=>rw[bZ,kT]at ht;simp only[SX,bu t3,j8 k _ (by omega),am];exact .inl ⟨aB,aB,g1,by rw[ht];exact g3,g4,g5,rfl⟩
    simp only[SX,aY t3,d1 _ (.refl _),q1,q2 _ l2];by_cases t4:v.az[i].rows[k]<=100;case neg=>rw[bZ,kT]at ht;simp only[SX,bu t4,j8 k _ (by omega),am];exact .inl ⟨aB,aB,g1,by rw[ht];exact g3,g4,g5,rfl⟩
    rw[ax ⟨t3,t4⟩]at ht;have ea:∀W',aw Tryz.prog .add 3 false false (.af (wH (v.az.take i)+xL (v.az[i].rows.take k))) (.af v.az[i].rows[k]) W'=some (.af (wH (v.az.take i)+xL (v.az[i].rows.take k)+v.az[i].rows[k]),W'):=λW'=>cY (by omega) (by omega)
    simp only[SX,aY t4,ea,j8 k _ (by omega),am];exact .inl ⟨aB,aB,g1,by rw[ht,<-wz];rfl,g4,g5,rfl⟩
   ·rintro R W3 ⟨rfl,g1,g3,g4,g5,g6⟩;unfold ly;have e2:¬((v.az[i].rows.length:Int)<(v.az[i].rows.length:Int)):=by omega
    rw[dN]at g3;simp only[SX,g5,g6,aK,d1 _ (.refl _),p2.len tp,e2,am];exact⟨by simp,aB,aB,g1,g3,g4⟩
   ·rintro⟨x,R,W3⟩ ⟨hW,hx,g1,g3,g4⟩;simp only at hW hx g1 g3 g4;subst hW hx;simp only[SX,g4,j8 i _ (by omega),am];refine .inl ⟨aB,l2,g1,by rw[Gq hi];exact g3,rfl,λj h hji=>?_⟩;by_cases ahP:j<i
    ·exact hj j h ahP
    ·obtain rfl:j=i:=by omega
     omega
  ·rintro R W' ⟨FK,f1,f3,f4,hj⟩;unfold pT;have e1:¬((v.az.length:Int)<(v.az.length:Int)):=by omega
   rw[dN]at f3;simp only[SX,f1,f4,aK,c3 _ FK,ze.len SZ,e1,am];exact⟨by simp,FK,.inl ⟨aB,f3,λs hs=>by obtain⟨j,hj2,rfl⟩:=vj hs;exact hj j hj2 hj2⟩⟩
  ·rintro⟨x,R,W'⟩ ⟨FK,hq⟩;simp only at FK hq;rcases hq with⟨rfl,f3,hj⟩|⟨rfl,f2⟩
   ·simp only[SX,f3,am];exact⟨_,rfl,bi.trans FK,λhb=>⟨hl,hj,by have:=of_decide_eq_false hb;omega⟩⟩
   ·simp only[SX,f2,am];exact⟨_,rfl,bi.trans FK,λhb=>by cases hb⟩
 obtain⟨⟨r,W'⟩,h1,b,h2,h3,h4⟩:=kw;simp only at h2 h3;subst h2;exact⟨b,by rw[E7 h1,vE h3],h4⟩
def Uf(a b:Int)(W:AW):aG Tryz.prog .min #[3,3] 3 #[false,true] [.af a,.af b] W=some (.af (min a b),W):=by
 have e:aG Tryz.prog .min #[3,3] 3 #[false,true] [.af a,.af b] W=(jV Tryz.prog ([Value.int .i64 a,.af b].all bI) (builtin .min #[3,3] 3 #[false,true] #[.af a,.af b])).map λv=>(v,W):=by unfold aG;rfl
 rw[e];have e2:builtin .min #[3,3] 3 #[false,true] #[.af a,.af b]=(do pure (.value (<-Builtin.min_ #[3,3] 3 #[.af a,.af b]))):=rfl;rw[e2];refine B5 ?_ rfl _ rfl;unfold Builtin.min_;simp only[List.foldlM_cons,List.foldlM_nil,eL,Builtin.min2,fq,bq];congr 2;by_cases h:b<a
 ·rw[ax h];omega
 ·rw[ay h];omega
def UH(a b:Int)(W:AW):aG Tryz.prog .max #[3,3] 3 #[true,false] [.af a,.af b] W=some (.af (max a b),W):=by
 have e:aG Tryz.prog .max #[3,3] 3 #[true,false] [.af a,.af b] W=(jV Tryz.prog ([Value.int .i64 a,.af b].all bI) (builtin .max #[3,3] 3 #[true,false] #[.af a,.af b])).map λv=>(v,W):=by unfold aG;rfl
 rw[e];have e2:builtin .max #[3,3] 3 #[true,false] #[.af a,.af b]=(do pure (.value (<-Builtin.max_ #[3,3] 3 #[.af a,.af b]))):=rfl;rw[e2];refine B5 ?_ rfl _ rfl;unfold Builtin.max_;simp only[List.foldlM_cons,List.foldlM_nil,eL,Builtin.max2,fq,bq];congr 2;by_cases h:a<b
 ·rw[ax h];omega
 ·rw[ay h];omega
def g45:Tryz.prog.eqGuardType Tryz.prog.depth 45=false:=by kernel_rfl
def q45(x y:oK):xU Tryz.prog 8 45 (OZ x) (OZ y)=pI (OQ (opQ x.op y.op) (OQ (rpQ x.rp y.rp) (ke [(x.ar,y.ar),(x.co,y.co),(x.an,y.an)]))) [(x.id,y.id),(x.wk,y.wk)]:=by kernel_rfl
def aaM(x:oK)(c d:Bool)(W:AW):aw Tryz.prog .neq 45 c d (OZ x) (OZ x) W=some (.bool false,W):=by
 have h:xU Tryz.prog 8 45 (OZ x) (OZ x)=some true:=by rw[q45,Jr,Jy,jW,wC,wC,mA];simp
 exact gg g45 h
def AD{K:LT->Option (ae×AW)}{Q:ae×AW->Prop}{V:AW}{b:Nat}{v:cT}{sv:ae}{R0:Nat->ae}(hs:jc V sv v.az)(n1:v.az.length<=10)(n2:∀s∈v.az,s.rows.length<=20)(c3:aJ (.pointer (some ⟨b,3,none⟩)) V=some (sv,V))(r1:R0 1=cp b)(r3:R0 3=.af 0)(r4:R0 4=.af 0)
 (hK:∀R z,R 3=.af z->Ok (K (.exit 0,R,V)) Q):Ok (aj (du (lV bl) R0 V) K) Q:=by
 refine cx v.az.length (by omega) (λi R W'=>W'=V/\R 1=cp b/\(∃z:Int,R 3=.af z/\0<=z/\z<=2000*i)/\R 4=.af (i:Int))
  (λr=>r.2.2=V/\r.1=.exit 0/\∃z,r.2.1 3=.af z) ⟨rfl,r1,⟨0,r3,by omega,by omega⟩,r4⟩ ?_ ?_ ?_
 ·rintro i R W' hi ⟨rfl,f1,⟨z,f3,z1,z2⟩,f4⟩;unfold lV;have e1:decide ((i:Int)<(v.az.length:Int))=true:=pd;obtain⟨bb,o,rv,p1,p2,p3,p4,p5,-⟩:=hs.get hi;have p5':=p5 W' (.refl _);have h20:=n2 _ (gd hi);have t2:=λW'=>dP W' i 1
  have e3:((i+1:Nat):Int)=(i:Int)+1:=by omega
  simp only[SX,f1,f4,aK,c3,hs.len SZ,e1];refine cx v.az[i].rows.length (by omega) (λk R X=>X=W'/\R 1=cp b/\(∃z:Int,R 3=.af z/\0<=z/\z<=2000*i+100*k)/\R 4=.af (i:Int)/\R 5=.af (k:Int))
   (λr=>r.2.2=W'/\r.1=.exit 2/\r.2.1 1=cp b/\(∃z:Int,r.2.1 3=.af z/\0<=z/\z<=2000*((i:Int)+1))/\r.2.1 4=.af (i:Int)) ⟨rfl,f1,⟨z,f3,z1,by omega⟩,f4,rfl⟩ ?_ ?_ ?_
  ·rintro k R W3 hk ⟨rfl,g1,⟨y,g3,y1,y2⟩,g4,g5⟩;unfold lC;have e2:decide ((k:Int)<(v.az[i].rows.length:Int))=true:=pd;obtain⟨p,q1,q2⟩:=p2.get hk;have m1:=Uf v.az[i].rows[k] 100;have m2:=UH 0 (min v.az[i].rows[k] 100);obtain⟨mm,hmm⟩:∃mm,mm=max 0 (min v.az[i].rows[k] 100):=⟨_,rfl⟩;have hm1:0<=mm/\mm<=100:=by omega
   rw[<-hmm]at m2;have ea:=λW'=>rq W' y mm
   have ec:=λW'=>dP W' k 1
   simp only[SX,g1,g3,g4,g5,aK,c3,p1,p5',p2.len tp,e2,q1,q2 _ (.refl _),m1,m2,ea,ec,am];exact .inl ⟨aB,aB,g1,⟨_,rfl,by omega,by omega⟩,g4,by rw[show((k+1:Nat):Int)=(k:Int)+1 by omega];rfl⟩
  ·rintro R W3 ⟨rfl,g1,⟨y,g3,y1,y2⟩,g4,g5⟩;unfold lC;have e2:decide ((v.az[i].rows.length:Int)<(v.az[i].rows.length:Int))=false:=fF;simp only[SX,g1,g4,g5,aK,c3,p1,p5',p2.len tp,e2,am];exact⟨by simp,aB,aB,g1,⟨_,g3,by omega,by omega⟩,g4⟩
  ·rintro⟨x,R,W3⟩ ⟨rfl,rfl,g1,⟨y,g3,y1,y2⟩,g4⟩;have g1:R 1=cp b:=g1;have g3:R 3=.af y:=g3;have g4:R 4=.af (i:Int):=g4;simp only[SX,g4,t2,am];exact .inl ⟨aB,aB,g1,⟨y,g3,by omega,by omega⟩,by rw[e3];rfl⟩
 ·rintro R W' ⟨rfl,f1,⟨z,f3,z1,z2⟩,f4⟩;unfold lV;have e1:decide ((v.az.length:Int)<(v.az.length:Int))=false:=fF;simp only[SX,f1,f4,aK,c3,hs.len SZ,e1,am];exact⟨by simp,aB,aB,z,f3⟩
 ·rintro⟨x,R,W'⟩ ⟨rfl,rfl,z,f3⟩;exact hK R z f3
def Nk{W:AW}{v:cT}{sv ev:ae}{l:List eg}(hs:eX W sv v.az)(he:KJ W ev l):∃c:Bool,bl (.func (.func 6) #[] #[]) [BS v sv ev] W=some (.bool c,W)/\(c=false->O5 W v sv ev l):=by
 have kw:Ok (xA bl (BS v sv ev) W) λr=>∃c:Bool,r.1=.bool c/\Le W r.2/\(c=false->O5 W v sv ev l):=by
  unfold xA;obtain⟨V,bx,bi,nV,g0⟩:=sf v sv ev W;have h1:=hs.mono bi;have l4:bA 4 (cp W.next) V=some (gW v sv,V):=fy (bm g0) rfl;have c3:aJ (.pointer (some ⟨W.next,3,none⟩)) V=some (sv,V):=gH g0 rfl;have c4:aJ (.pointer (some ⟨W.next,4,none⟩)) V=some (ev,V):=gH g0 rfl;have ln:∀W',aG Tryz.prog .len #[25] 3 #[false] [ev] W'=some (.af (l.length:Int),W'):=λW'=>Row.len he FH W' 3 #[false]
  obtain⟨b,f1,f2⟩:=Ny h1.1;cases b with
  |true=>simp only[SX,bx,aK,l4,f1,wu2,am];exact⟨_,rfl,bi,λe=>by cases e⟩
  |false=>
  obtain⟨n1,n2,-⟩:=f2 rfl;have hR:O5 W v sv ev l:=⟨hs,by omega,λs hm=>by have:=n2 s hm;omega,he⟩;cases d1:decide ((200:Int)<(l.length:Int))with
  |true=>
   cases d2:decide ((l.length:Int)<=2000)with
   |true=>simp only[SX,bx,aK,l4,f1,c4,ln,d1,d2,am];exact⟨_,rfl,bi,λ_=>hR⟩
   |false=>
    cases d3:decide ((2010:Int)<(l.length:Int))with
    |true=>simp only[SX,bx,aK,l4,f1,c4,ln,d1,d2,d3,am];exact⟨_,rfl,bi,λ_=>hR⟩
    |false=>
     simp only[SX,bx,aK,l4,f1,c4,ln,d1,d2,d3];refine AD h1.1 n1 n2 c3 rfl rfl rfl λR z hz=>?_
     simp only[SX,hz,am];exact⟨_,rfl,bi,λ_=>hR⟩
  |false=>
   cases d3:decide ((2010:Int)<(l.length:Int))with
   |true=>simp only[SX,bx,aK,l4,f1,c4,ln,d1,d3,am];exact⟨_,rfl,bi,λ_=>hR⟩
   |false=>
    simp only[SX,bx,aK,l4,f1,c4,ln,d1,d3];refine AD h1.1 n1 n2 c3 rfl rfl rfl λR z hz=>?_
    simp only[SX,hz,am];exact⟨_,rfl,bi,λ_=>hR⟩
 obtain⟨⟨q,W'⟩,h1,c,h2,h3,h4⟩:=kw;simp only at h2;subst h2;exact⟨c,bS rfl ⟨_,h1,rfl,h3⟩ En,h4⟩
def Jk.one{W:AW}{u:ae}{m:List oK}(h:Jk W u m){i:Nat}(hi:i<m.length):∃p,(∀W' k,iY 26 u (.int k (i:Int)) W'=some (p,W'))/\∀W',Le W W'->bA 26 p W'=some (OZ m[i],W'):=by obtain⟨b,o,h1,h2⟩:=h.get hi;obtain⟨-,-,-,hb⟩:=h2 W rfl;exact⟨_,h1,λW' hl=>(h2 W' (hl.get _ hb)).1⟩
def EY{W:AW}{v:cT}{sv ev:ae}{l:List eg}(hG:GW W)(hs:eX W sv v.az)(he:KJ W ev l):bl (.func (.func 3) #[] #[]) [BS v sv ev] W=some (.bool true,W):=by
 refine bS rfl ?_ qL;unfold mZ;obtain⟨V,bx,bi,nV,g0⟩:=sf v sv ev W;have cB:=jQ g0;obtain⟨c,hf,hc⟩:=Nk (hs.mono bi) (he.mono bi);cases c with
 |true=>have sh:=GF (hG.mono bi);simp only[SX,bx,cB,hf,sh,am];exact⟨aB,bi⟩
 |false=>
 have hV:=hc rfl;obtain⟨a,e,A1,q1⟩:=HS (hG.mono bi) hV;obtain⟨a',e',A2,q2⟩:=Mo hV;obtain⟨rfl,rfl⟩:=A1.VE A2;obtain⟨a3,e3,u3,W3,A3,q3,l3,r3⟩:=Gc (hG.mono bi) hV;obtain⟨rfl,rfl⟩:=A1.VE A3;have l03:=bi.trans l3;obtain⟨a4,e4,u4,W4,A4,q4,l4,r4⟩:=Hg (hV.mono l3);obtain⟨rfl,rfl⟩:=A1.VE A4;have l04:=l03.trans l4;have g3:=(l3.get _ (by omega)).trans g0;have cB3:=jQ g3;have sh:=GF (hG.mono l04);obtain⟨m,n1,n2,hm⟩:∃m:List oK,Jk W4 u3 m/\Jk W4 u4 m/\m.length<=200:=by
  rcases r3 with⟨he,rfl⟩|⟨he,s,hr,hc⟩
  ·rcases r4 with⟨-,rfl⟩|⟨he',-⟩
   ·exact⟨[],⟨none,0,rfl,.inl rfl⟩,⟨none,0,rfl,.inl rfl⟩,by simp⟩
   ·exact absurd he' he
  ·rcases r4 with⟨he',-⟩|⟨-,s',hr',oN⟩
   ·exact absurd he he'
   ·rw[hr'.VE hr]at oN;exact⟨s.cl,hc.mono l4,oN,hr.inv.len⟩
 have ln3:∀W',aG Tryz.prog .len #[33] 3 #[false] [u3] W'=some (.af (m.length:Int),W'):=λW'=>Row.len n1 Kz W' 3 #[false]
 have ln4:∀W',aG Tryz.prog .len #[33] 3 #[false] [u4] W'=some (.af (m.length:Int),W'):=λW'=>Row.len n2 Kz W' 3 #[false]
 have eqi:∀z:Int,decide (z=z)=true:=λz=>aY rfl
 simp only[SX,bx,cB,hf,q1,q2,q3,cB3,q4,ln3,ln4];refine cx m.length (by omega) (λi R W'=>W'=W4/\R 7=u3/\R 9=u4/\R 11=.af (i:Int)) (λr=>r.2.2=W4/\r.1=.exit 0) ⟨rfl,rfl,rfl,rfl⟩ ?_ ?_ ?_
 ·rintro i R W' hi ⟨rfl,r7,r9,bN⟩;unfold gI;have t1:decide ((i:Int)<(m.length:Int))=true:=pd;have t2:=λW'=>dP W' i 1
  have e3:((i+1:Nat):Int)=(i:Int)+1:=by omega
  obtain⟨p,p1,p2⟩:=n1.one hi;obtain⟨p',p3,p4⟩:=n2.one hi;simp only[SX,r7,r9,bN,ln3,t1,p1,p2 _ (.refl _),p3,p4 _ (.refl _),aaM,t2,am];exact .inl ⟨aB,aB,r7,r9,by rw[e3];rfl⟩
 ·rintro R W' ⟨rfl,r7,r9,bN⟩;unfold gI;have t1:decide ((m.length:Int)<(m.length:Int))=false:=fF;simp only[SX,r7,bN,ln3,t1,am];exact⟨by simp,aB,aB⟩
 ·rintro⟨x,R,W'⟩ ⟨rfl,rfl⟩;simp only[SX,sh,am];exact⟨aB,l04⟩
end Go.Proofs.YtekljimefjclgaaGreatDoor
