/- A part: contracts and laws. -/
import Derived.Test.YtmaoneengdafhaaGreatDoorPartC
set_option linter.unusedVariables false
set_option linter.unusedSimpArgs false
set_option linter.unusedSectionVars false
set_option linter.defProp false
noncomputable section
open Go renaming TypeId->ae,Value->ad,undef->ak
set_option maxRecDepth 100000
namespace Go.Proofs.YtmaoneengdafhaaGreatDoor
open Go Go.Eng
def JW{n:Nat}(h:n<1000000000000)(W:AW):o8 Tryz.prog 3 228 (.af (n:Int)) W=some (.int .u64 (n:Int),W):=by have:o8 Tryz.prog 3 228 (.af (n:Int)) W=some (.int .u64 (IntKind.u64.wrap (n:Int)),W):=aL (by kernel_rfl) rfl;rw[this,yI (by omega) (by omega)]
def cv3{n:Nat}(h:n<1000000000000)(W:AW):o8 Tryz.prog 228 3 (.int .u64 (n:Int)) W=some (.af (n:Int),W):=by have:o8 Tryz.prog 228 3 (.int .u64 (n:Int)) W=some (.af (IntKind.i64.wrap (n:Int)),W):=aL (by kernel_rfl) rfl;rw[this,rC (by omega) (by omega)]
def Ex(n:Nat)(W:AW):bs Tryz.prog .shr 228 false true (.int .u64 (n:Int)) (.int .u64 1) W=some (.int .u64 ((n/2:Nat):Int),W):=by refine oG (by simp[nl,Bc]) rfl rfl rfl ?_;simp[eqGuard,binOp,Op.shift];have e:((n:Int)).fdiv (2^ min 1 IntKind.u64.bits)=(n:Int)/2:=Hs _ (by decide);rw[e];rfl
def LV{a:Nat}(h:a<100000000000)(t:ae)(c d:Bool)(W:AW):bs Tryz.prog .add t c d (.af (a:Int)) (.af 1) W=some (.af ((a+1:Nat):Int),W):=uh (a:=a) (b:=1) (by omega) t c d W
def Xd{a:Nat}(h:1<=a)(ha:a<100000000000)(t:ae)(c d:Bool)(W:AW):bs Tryz.prog .sub t c d (.af (a:Int)) (.af 1) W=some (.af ((a-1:Nat):Int),W):=wS (a:=a) (b:=1) h (by omega) t c d W
section
variable {ρ:Type} {V U W:AW} {B n c:Nat} {f g:Nat->Int} {fv:ad} {k:Int->Int} {D:Int->Prop} {R:ah.Fr} {K:LT->Option ρ} {G:ρ->Prop}
def NM(hn:n<=10000)(hc:Cz V B n fv k D)(hD:∀t,t<n->D (f t))(u:iW V B n f U){s0 r0 p:Nat}(h1:s0<=r0)(h2:r0<=n)(hp:p<100000)(hb:∀x,s0<=x->x<r0->x<=p/\p-x<n)
 (hX:∀x y,s0<=x->x<=y->y<r0->k (f x)<=k (f y))(hY:∀x y,s0<=x->x<=y->y<r0->k (f (p-y))<=k (f (p-x)))
 (q0:R 0=.slice (some ⟨B,0,none⟩) n c)(q4:R 4=fv)(q20:R 20=.af (s0:Int))(q21:R 21=.af (r0:Int))(q22:R 22=.af (p:Int))
 (hk:∀(R':ah.Fr) (st:Nat),s0<=st->st<=r0->(∀x,s0<=x->x<st->k (f x)<=k (f (p-x)))->(∀x,st<=x->x<r0->k (f (p-x))<k (f x))->R' 0=R 0->R' 1=R 1->R' 2=R 2->R' 3=R 3->R' 4=R 4->R' 18=R 18->R' 19=R 19->R' 20=.af (st:Int)->Ok (K (X.exit 8,R',U)) G):
 Ok (dN (ge (dr bf) R U) K) G:=by
 refine bz (r0-s0) (by omega) (λi Q U'=>U'=U/\Q 0=R 0/\Q 1=R 1/\Q 2=R 2/\Q 3=R 3/\Q 4=R 4/\Q 18=R 18/\Q 19=R 19/\Q 22=R 22/\∃st r:Nat,Q 20=.af (st:Int)/\Q 21=.af (r:Int)/\s0<=st/\st<=r/\r<=r0/\r-st+i<=r0-s0/\(∀x,s0<=x->x<st->k (f x)<=k (f (p-x)))/\∀x,r<=x->x<r0->k (f (p-x))<k (f x))
  (λr=>r.1=.exit 8/\r.2.2=U/\r.2.1 0=R 0/\r.2.1 1=R 1/\r.2.1 2=R 2/\r.2.1 3=R 3/\r.2.1 4=R 4/\r.2.1 18=R 18/\r.2.1 19=R 19/\∃st:Nat,r.2.1 20=.af (st:Int)/\s0<=st/\st<=r0/\(∀x,s0<=x->x<st->k (f x)<=k (f (p-x)))/\∀x,st<=x->x<r0->k (f (p-x))<k (f x))
  ⟨rfl,rfl,rfl,rfl,rfl,rfl,rfl,rfl,rfl,s0,r0,q20,q21,by omega,h1,by omega,by omega,λx a b=>by omega,λx a b=>by omega⟩ ?_ ?_ ?_
 ·rintro i Q U' hi ⟨rfl,z0,z1,z2,z3,z4,Nc,Oh,z22,st,r,z20,Qt,a1,a2,a3,a4,a5,a6⟩;unfold dr;by_cases e:st=r
  ·subst e;have t1:¬((st:Int)<(st:Int)):=by omega
   simp only[SX,z20,Qt,t1,ai];exact .inr ⟨by simp,ao,ao,z0,z1,z2,z3,z4,Nc,Oh,st,z20,a1,a3,a5,a6⟩
  ·have t1:((st:Int)<(r:Int)):=by omega
   obtain⟨x,hx⟩:∃x,x=(st+r)/2:=⟨_,rfl⟩;have b1:st<=x:=by omega
   have b2:x<r:=by omega
   have ta:=λt c d W'=>uh (a:=st) (b:=r) (by omega) t c d W'
   have tb:=λW'=>JW (n:=st+r) (by omega) W'
   have tc:=λW'=>Ex (st+r) W'
   rw[<-hx]at tc;have td:=λW'=>cv3 (n:=x) (by omega) W'
   obtain⟨b3,b4⟩:=hb x (by omega) (by omega);have te:=λt c d W'=>wS (a:=p) (b:=x) b3 (by omega) t c d W'
   have tf:=λt c d W'=>LV (a:=x) (by omega) t c d W'
   obtain⟨cv,c1,c2⟩:=hc U' f u (f (p-x)) (f x) (hD _ b4) (hD _ (by omega));have x1:∀k W',nR 1 (.slice (some ⟨B,0,none⟩) n c) (.int k (x:Int)) W'=some (.pointer (some ⟨B,x,none⟩),W'):=λk W'=>LF (by omega) k W'
   have x2:∀k W',nR 1 (.slice (some ⟨B,0,none⟩) n c) (.int k ((p-x:Nat):Int)) W'=some (.pointer (some ⟨B,p-x,none⟩),W'):=λk W'=>LF b4 k W'
   have z0':=z0.trans q0;have z4':=z4.trans q4;have Wm:=z22.trans q22;by_cases lt:cv<0
   ·have d1:=be lt;simp only[SX,z20,Qt,t1,ta,tb,tc,td,Wm,te,z0',z4',x1,x2,u.ld (i:=x) (by omega),u.ld (i:=p-x) b4,c1,d1,tf,ai];refine .inl ⟨ao,ao,z0,z1,z2,z3,z4,Nc,Oh,z22,st,x,z20,rfl,a1,b1,by omega,by omega,a5,λy y1 y2=>?_⟩;by_cases c:r<=y
    ·exact a6 y c y2
    ·have:=hX x y (by omega) y1 y2;have:=hY x y (by omega) y1 y2;have:=c2.1 lt;omega
   ·have d1:=bm lt;simp only[SX,z20,Qt,t1,ta,tb,tc,td,Wm,te,z0',z4',x1,x2,u.ld (i:=x) (by omega),u.ld (i:=p-x) b4,c1,d1,tf,ai];refine .inl ⟨ao,ao,z0,z1,z2,z3,z4,Nc,Oh,z22,x+1,r,rfl,Qt,by omega,by omega,a3,by omega,λy y1 y2=>?_,a6⟩;have h3:=hX y x y1 (by omega) (by omega);have h4:=hY y x y1 (by omega) (by omega);have:¬k (f (p-x))<k (f x):=λh=>lt (c2.2 h)
    omega
 ·rintro Q U' ⟨rfl,z0,z1,z2,z3,z4,Nc,Oh,z22,st,r,z20,Qt,a1,a2,a3,a4,a5,a6⟩;have e:st=r:=by omega
  subst e;unfold dr;have t1:¬((st:Int)<(st:Int)):=by omega
  simp only[SX,z20,Qt,t1,ai];exact⟨by simp,ao,ao,z0,z1,z2,z3,z4,Nc,Oh,st,z20,a1,a3,a5,a6⟩
 ·rintro⟨q,Q,U'⟩ ⟨rfl,rfl,z0,z1,z2,z3,z4,Nc,Oh,st,z20,a1,a3,a5,a6⟩;exact hk Q st a1 a3 a5 a6 z0 z1 z2 z3 z4 Nc Oh z20
def N8(hn:n<=10000)(hc:Cz V B n fv k D)(hD:∀t,t<n->D (f t))(u:iW V B n f U){s0 r0 p:Nat}(h1:s0<=r0)(h2:r0<=n)(hp:p<100000)(hb:∀x,s0<=x->x<r0->x<=p/\p-x<n)
 (hX:∀x y,s0<=x->x<=y->y<r0->k (f x)<=k (f y))(hY:∀x y,s0<=x->x<=y->y<r0->k (f (p-y))<=k (f (p-x)))
 (q0:R 0=.slice (some ⟨B,0,none⟩) n c)(q4:R 4=fv)(q20:R 20=.af (s0:Int))(q21:R 21=.af (r0:Int))(q22:R 22=.af (p:Int))
 (hk:∀(R':ah.Fr) (st:Nat),s0<=st->st<=r0->(∀x,s0<=x->x<st->k (f x)<=k (f (p-x)))->(∀x,st<=x->x<r0->k (f (p-x))<k (f x))->R' 0=R 0->R' 1=R 1->R' 2=R 2->R' 3=R 3->R' 4=R 4->R' 18=R 18->R' 19=R 19->R' 20=.af (st:Int)->Ok (K (X.exit 8,R',U)) G):
 Ok (dN (ge (du bf) R U) K) G:=by
 refine bz (r0-s0) (by omega) (λi Q U'=>U'=U/\Q 0=R 0/\Q 1=R 1/\Q 2=R 2/\Q 3=R 3/\Q 4=R 4/\Q 18=R 18/\Q 19=R 19/\Q 22=R 22/\∃st r:Nat,Q 20=.af (st:Int)/\Q 21=.af (r:Int)/\s0<=st/\st<=r/\r<=r0/\r-st+i<=r0-s0/\(∀x,s0<=x->x<st->k (f x)<=k (f (p-x)))/\∀x,r<=x->x<r0->k (f (p-x))<k (f x))
  (λr=>r.1=.exit 8/\r.2.2=U/\r.2.1 0=R 0/\r.2.1 1=R 1/\r.2.1 2=R 2/\r.2.1 3=R 3/\r.2.1 4=R 4/\r.2.1 18=R 18/\r.2.1 19=R 19/\∃st:Nat,r.2.1 20=.af (st:Int)/\s0<=st/\st<=r0/\(∀x,s0<=x->x<st->k (f x)<=k (f (p-x)))/\∀x,st<=x->x<r0->k (f (p-x))<k (f x))
  ⟨rfl,rfl,rfl,rfl,rfl,rfl,rfl,rfl,rfl,s0,r0,q20,q21,by omega,h1,by omega,by omega,λx a b=>by omega,λx a b=>by omega⟩ ?_ ?_ ?_
 ·rintro i Q U' hi ⟨rfl,z0,z1,z2,z3,z4,Nc,Oh,z22,st,r,z20,Qt,a1,a2,a3,a4,a5,a6⟩;unfold du;by_cases e:st=r
  ·subst e;have t1:¬((st:Int)<(st:Int)):=by omega
   simp only[SX,z20,Qt,t1,ai];exact .inr ⟨by simp,ao,ao,z0,z1,z2,z3,z4,Nc,Oh,st,z20,a1,a3,a5,a6⟩
  ·have t1:((st:Int)<(r:Int)):=by omega
   obtain⟨x,hx⟩:∃x,x=(st+r)/2:=⟨_,rfl⟩;have b1:st<=x:=by omega
   have b2:x<r:=by omega
   have ta:=λt c d W'=>uh (a:=st) (b:=r) (by omega) t c d W'
   have tb:=λW'=>JW (n:=st+r) (by omega) W'
   have tc:=λW'=>Ex (st+r) W'
   rw[<-hx]at tc;have td:=λW'=>cv3 (n:=x) (by omega) W'
   obtain⟨b3,b4⟩:=hb x (by omega) (by omega);have te:=λt c d W'=>wS (a:=p) (b:=x) b3 (by omega) t c d W'
   have tf:=λt c d W'=>LV (a:=x) (by omega) t c d W'
   obtain⟨cv,c1,c2⟩:=hc U' f u (f (p-x)) (f x) (hD _ b4) (hD _ (by omega));have x1:∀k W',nR 1 (.slice (some ⟨B,0,none⟩) n c) (.int k (x:Int)) W'=some (.pointer (some ⟨B,x,none⟩),W'):=λk W'=>LF (by omega) k W'
   have x2:∀k W',nR 1 (.slice (some ⟨B,0,none⟩) n c) (.int k ((p-x:Nat):Int)) W'=some (.pointer (some ⟨B,p-x,none⟩),W'):=λk W'=>LF b4 k W'
   have z0':=z0.trans q0;have z4':=z4.trans q4;have Wm:=z22.trans q22;by_cases lt:cv<0
   ·have d1:=be lt;simp only[SX,z20,Qt,t1,ta,tb,tc,td,Wm,te,z0',z4',x1,x2,u.ld (i:=x) (by omega),u.ld (i:=p-x) b4,c1,d1,tf,ai];refine .inl ⟨ao,ao,z0,z1,z2,z3,z4,Nc,Oh,z22,st,x,z20,rfl,a1,b1,by omega,by omega,a5,λy y1 y2=>?_⟩;by_cases c:r<=y
    ·exact a6 y c y2
    ·have:=hX x y (by omega) y1 y2;have:=hY x y (by omega) y1 y2;have:=c2.1 lt;omega
   ·have d1:=bm lt;simp only[SX,z20,Qt,t1,ta,tb,tc,td,Wm,te,z0',z4',x1,x2,u.ld (i:=x) (by omega),u.ld (i:=p-x) b4,c1,d1,tf,ai];refine .inl ⟨ao,ao,z0,z1,z2,z3,z4,Nc,Oh,z22,x+1,r,rfl,Qt,by omega,by omega,a3,by omega,λy y1 y2=>?_,a6⟩;have h3:=hX y x y1 (by omega) (by omega);have h4:=hY y x y1 (by omega) (by omega);have:¬k (f (p-x))<k (f x):=λh=>lt (c2.2 h)
    omega
 ·rintro Q U' ⟨rfl,z0,z1,z2,z3,z4,Nc,Oh,z22,st,r,z20,Qt,a1,a2,a3,a4,a5,a6⟩;have e:st=r:=by omega
  subst e;unfold du;have t1:¬((st:Int)<(st:Int)):=by omega
  simp only[SX,z20,Qt,t1,ai];exact⟨by simp,ao,ao,z0,z1,z2,z3,z4,Nc,Oh,st,z20,a1,a3,a5,a6⟩
 ·rintro⟨q,Q,U'⟩ ⟨rfl,rfl,z0,z1,z2,z3,z4,Nc,Oh,st,z20,a1,a3,a5,a6⟩;exact hk Q st a1 a3 a5 a6 z0 z1 z2 z3 z4 Nc Oh z20
end
def Xa(R:Nat->ad)(U:AW):Option (ad×AW):=dN (bs Tryz.prog .sub 3 false false (R 19) (R 20) U) λFP=>dN (bs Tryz.prog .lss 3 false false (R 20) (R 2) FP.2) λRr=>dN (nj (qk Rr.1 true) (gy (R 2) Rr.2) (some (ak,Rr.2))) λr84=>dN (nj (qk Rr.1 true) (gy FP.1 r84.2) (some (ak,r84.2))) λr85=>dN (nj (qk Rr.1 true) (bs Tryz.prog .lss 3 false false r84.1 r85.1 r85.2) (some (ak,r85.2))) λr86=>dN (pj Rr.1 r86.1 (.bool false) r86.2) λSC=>Jy SC.1 (dN (bf (rB 221) [(R 0),(R 20),(R 2),FP.1,(R 4)] SC.2) λr88=>dN (bs Tryz.prog .lss 3 false false (R 1) (R 20) r88.2) λM9=>dN (nj (qk M9.1 true) (gy (R 20) M9.2) (some (ak,M9.2))) λr90=>dN (nj (qk M9.1 true) (gy (R 18) r90.2) (some (ak,r90.2))) λr91=>dN (nj (qk M9.1 true) (bs Tryz.prog .lss 3 false false r90.1 r91.1 r91.2) (some (ak,r91.2))) λr92=>dN (pj M9.1 r92.1 (.bool false) r92.2) λr93=>Jy r93.1 (dN (bf (rB 214) [(R 0),(R 1),(R 20),(R 18),(R 4)] r93.2) λr94=>dN (bs Tryz.prog .lss 3 false false (R 18) FP.1 r94.2) λRi=>dN (nj (qk Ri.1 true) (gy FP.1 Ri.2) (some (ak,Ri.2))) λr96=>dN (nj (qk Ri.1 true) (gy (R 3) r96.2) (some (ak,r96.2))) λr97=>dN (nj (qk Ri.1 true) (bs Tryz.prog .lss 3 false false r96.1 r97.1 r97.2) (some (ak,r97.2))) λr98=>dN (pj Ri.1 r98.1 (.bool false) r98.2) λr99=>Jy r99.1 (dN (bf (rB 214) [(R 0),(R 18),FP.1,(R 3),(R 4)] r99.2) λadz=>iS Tryz.prog [] adz.2) (iS Tryz.prog [] r99.2)) (dN (bs Tryz.prog .lss 3 false false (R 18) FP.1 r93.2) λQn=>dN (nj (qk Qn.1 true) (gy FP.1 Qn.2) (some (ak,Qn.2))) λacM=>dN (nj (qk Qn.1 true) (gy (R 3) acM.2) (some (ak,acM.2))) λadI=>dN (nj (qk Qn.1 true) (bs Tryz.prog .lss 3 false false acM.1 adI.1 adI.2) (some (ak,adI.2))) λagX=>dN (pj Qn.1 agX.1 (.bool false) agX.2) λabx=>Jy abx.1 (dN (bf (rB 214) [(R 0),(R 18),FP.1,(R 3),(R 4)] abx.2) λakS=>iS Tryz.prog [] akS.2) (iS Tryz.prog [] abx.2))) (dN (bs Tryz.prog .lss 3 false false (R 1) (R 20) SC.2) λRa=>dN (nj (qk Ra.1 true) (gy (R 20) Ra.2) (some (ak,Ra.2))) λaex=>dN (nj (qk Ra.1 true) (gy (R 18) aex.2) (some (ak,aex.2))) λabL=>dN (nj (qk Ra.1 true) (bs Tryz.prog .lss 3 false false aex.1 abL.1 abL.2) (some (ak,abL.2))) λahd=>dN (pj Ra.1 ahd.1 (.bool false) ahd.2) λada=>Jy ada.1 (dN (bf (rB 214) [(R 0),(R 1),(R 20),(R 18),(R 4)] ada.2) λamT=>dN (bs Tryz.prog .lss 3 false false (R 18) FP.1 amT.2) λQe=>dN (nj (qk Qe.1 true) (gy FP.1 Qe.2) (some (ak,Qe.2))) λaca=>dN (nj (qk Qe.1 true) (gy (R 3) aca.2) (some (ak,aca.2))) λabN=>dN (nj (qk Qe.1 true) (bs Tryz.prog .lss 3 false false aca.1 abN.1 abN.2) (some (ak,abN.2))) λafB=>dN (pj Qe.1 afB.1 (.bool false) afB.2) λadt=>Jy adt.1 (dN (bf (rB 214) [(R 0),(R 18),FP.1,(R 3),(R 4)] adt.2) λak5=>iS Tryz.prog [] ak5.2) (iS Tryz.prog [] adt.2)) (dN (bs Tryz.prog .lss 3 false false (R 18) FP.1 ada.2) λQ3=>dN (nj (qk Q3.1 true) (gy FP.1 Q3.2) (some (ak,Q3.2))) λaeh=>dN (nj (qk Q3.1 true) (gy (R 3) aeh.2) (some (ak,aeh.2))) λacg=>dN (nj (qk Q3.1 true) (bs Tryz.prog .lss 3 false false aeh.1 acg.1 acg.2) (some (ak,acg.2))) λafF=>dN (pj Q3.1 afF.1 (.bool false) afF.2) λadm=>Jy adm.1 (dN (bf (rB 214) [(R 0),(R 18),FP.1,(R 3),(R 4)] adm.2) λamI=>iS Tryz.prog [] amI.2) (iS Tryz.prog [] adm.2)))
def L8(R:Nat->ad)(en:ad)(U:AW):Option (ad×AW):=dN (bs Tryz.prog .lss 3 false false (R 18) en U) λRi=>dN (nj (qk Ri.1 true) (gy en Ri.2) (some (ak,Ri.2))) λr96=>dN (nj (qk Ri.1 true) (gy (R 3) r96.2) (some (ak,r96.2))) λr97=>dN (nj (qk Ri.1 true) (bs Tryz.prog .lss 3 false false r96.1 r97.1 r97.2) (some (ak,r97.2))) λr98=>dN (pj Ri.1 r98.1 (.bool false) r98.2) λr99=>Jy r99.1 (dN (bf (rB 214) [(R 0),(R 18),en,(R 3),(R 4)] r99.2) λadz=>iS Tryz.prog [] adz.2) (iS Tryz.prog [] r99.2)
def Fa(R:Nat->ad)(en:ad)(U:AW):Option (ad×AW):=dN (bs Tryz.prog .lss 3 false false (R 1) (R 20) U) λM9=>dN (nj (qk M9.1 true) (gy (R 20) M9.2) (some (ak,M9.2))) λr90=>dN (nj (qk M9.1 true) (gy (R 18) r90.2) (some (ak,r90.2))) λr91=>dN (nj (qk M9.1 true) (bs Tryz.prog .lss 3 false false r90.1 r91.1 r91.2) (some (ak,r91.2))) λr92=>dN (pj M9.1 r92.1 (.bool false) r92.2) λr93=>Jy r93.1 (dN (bf (rB 214) [(R 0),(R 1),(R 20),(R 18),(R 4)] r93.2) λr94=>L8 R en r94.2) (L8 R en r93.2)
def PZ(R:Nat->ad)(U:AW):Xa R U=dN (bs Tryz.prog .sub 3 false false (R 19) (R 20) U) λFP=>dN (bs Tryz.prog .lss 3 false false (R 20) (R 2) FP.2) λRr=>dN (nj (qk Rr.1 true) (gy (R 2) Rr.2) (some (ak,Rr.2))) λr84=>dN (nj (qk Rr.1 true) (gy FP.1 r84.2) (some (ak,r84.2))) λr85=>dN (nj (qk Rr.1 true) (bs Tryz.prog .lss 3 false false r84.1 r85.1 r85.2) (some (ak,r85.2))) λr86=>dN (pj Rr.1 r86.1 (.bool false) r86.2) λSC=>Jy SC.1 (dN (bf (rB 221) [(R 0),(R 20),(R 2),FP.1,(R 4)] SC.2) λr88=>Fa R FP.1 r88.2) (Fa R FP.1 SC.2):=rfl
def oF.le{k:Int->Int}{f:Nat->Int}{a b i j:Nat}(h:oF k f a b)(h1:a<=i)(h2:i<=j)(h3:j<b):k (f i)<=k (f j):=by
 by_cases e:i=j
 ·rw[e];exact oe _
 ·have:=h i j h1 (by omega) h3;unfold GF at this;omega
def oF.sub{k:Int->Int}{f:Nat->Int}{a b a' b':Nat}(h:oF k f a b)(h1:a<=a')(h2:b'<=b):oF k f a' b':=λi j x1 x2 x3=>h i j (by omega) x2 (by omega)
structure Fo (k:Int->Int) (f:Nat->Int) (a m b:Nat):Prop where
 l:oF k f a m
 r:oF k f m b
 s:∀s t,a<=s->s<m->m<=t->t<b->f s<f t
section
variable {k:Int->Int} {f g g2 g3:Nat->Int} {a m b st mid en:Nat}
structure Hlf (k:Int->Int) (g:Nat->Int) (a st mid en b:Nat):Prop where
 l:Fo k g a st mid
 r:Fo k g mid en b
 x:∀s t,a<=s->s<mid->mid<=t->t<b->GF k (g s) (g t)
def Fo.half(h:Fo k f a m b)(h1:a<=st)(h2:st<=m)(h3:st<=mid)(he:st+en=mid+m)(h4:m<=en)(h5:en<=b)(f1:st=a\/en=b\/k (f (st-1))<=k (f en))(f2:st=m\/en=m\/k (f (en-1))<k (f st)):Hlf k (jp f st m en) a st mid en b:=by
 have ra:∀t,t<st->jp f st m en t=f t:=λt ht=>by unfold jp;rw[bK,bK]
 have rb:∀t,st<=t->t<mid->jp f st m en t=f (t+(m-st)):=λt x y=>by unfold jp;rw[kE]
 have rc:∀t,mid<=t->t<en->jp f st m en t=f (t-(en-m)):=λt x y=>by unfold jp;rw[bK,kE]
 have rd:∀t,en<=t->jp f st m en t=f t:=λt ht=>by unfold jp;rw[bK,bK]
 refine⟨⟨λi j x1 x2 x3=>?_,λi j x1 x2 x3=>?_,λs t x1 x2 x3 x4=>?_⟩,⟨λi j x1 x2 x3=>?_,λi j x1 x2 x3=>?_,λs t x1 x2 x3 x4=>?_⟩,λs t x1 x2 x3 x4=>?_⟩
 ·rw[ra i (by omega),ra j x3];exact h.l i j x1 x2 (by omega)
 ·rw[rb i x1 (by omega),rb j (by omega) x3];exact h.r _ _ (by omega) (by omega) (by omega)
 ·rw[ra s x2,rb t x3 x4];exact h.s _ _ x1 (by omega) (by omega) (by omega)
 ·rw[rc i x1 (by omega),rc j (by omega) x3];exact h.l _ _ (by omega) (by omega) (by omega)
 ·rw[rd i x1,rd j (by omega)];exact h.r _ _ (by omega) x2 x3
 ·rw[rc s x1 x2,rd t x3];exact h.s _ _ (by omega) (by omega) (by omega) x4
 ·by_cases c1:s<st
  ·rw[ra s c1];by_cases c2:t<en
   ·rw[rc t x3 c2];exact h.l _ _ x1 (by omega) (by omega)
   ·rw[rd t (by omega)];have q:k (f (st-1))<=k (f en):=by rcases f1 with f1|f1|f1<;>omega
    have q1:=h.l.le (i:=s) (j:=st-1) x1 (by omega) (by omega);have q2:=h.r.le (i:=en) (j:=t) h4 (by omega) x4;have q3:=h.s s t x1 (by omega) (by omega) x4;unfold GF;omega
  ·rw[rb s (by omega) x2];by_cases c2:t<en
   ·rw[rc t x3 c2];have q:k (f (en-1))<k (f st):=by rcases f2 with f2|f2|f2<;>omega
    have q1:=h.r.le (i:=s+(m-st)) (j:=en-1) (by omega) (by omega) (by omega);have q2:=h.l.le (i:=st) (j:=t-(en-m)) h1 (by omega) (by omega);exact .inl (by omega)
   ·rw[rd t (by omega)];exact h.r _ _ (by omega) (by omega) x4
def Hlf.join(h:Hlf k g a st mid en b)(p2:kR a mid g g2)(s2:oF k g2 a mid)(p3:kR mid b g2 g3)(s3:oF k g3 mid b):oF k g3 a b:=by
 intro i j x1 x2 x3;by_cases c1:i<mid
 ·rw[p3.out (t:=i) (by omega)];by_cases c2:j<mid
  ·rw[p3.out (t:=j) (by omega)];exact s2 i j x1 x2 c2
  ·obtain⟨i',i1,i2,e1⟩:=p2.sub i x1 c1;obtain⟨j',j1,j2,e2⟩:=p3.sub j (by omega) x3;rw[e1,e2,p2.out (t:=j') (by omega)];exact h.x _ _ i1 i2 j1 j2
 ·exact s3 i j (by omega) x2 x3
end
def Yp(V:AW)(B n c:Nat)(fv:ad)(k:Int->Int)(D:Int->Prop)(d:Nat):Prop:=∀a m b f W,b-a<d->a<m->m<b->b<=n->iW V B n f W->(∀t,t<n->D (f t))->Fo k f a m b->
 ∃U g,bf (.func (.func 214) #[] #[]) [.slice (some ⟨B,0,none⟩) n c,.af (a:Int),.af (m:Int),.af (b:Int),fv] W=some (.tuple #[],U)/\iW V B n g U/\kR a b f g/\oF k g a b
section
variable {V U W:AW} {B n c:Nat} {f g:Nat->Int} {fv:ad} {k:Int->Int} {D:Int->Prop} {R:ah.Fr} {a m b st mid en d:Nat}
def SZ(hS:Yp V B n c fv k D d)(hd:b-mid<d)(h1:mid<=en)(h2:en<=b)(hb:b<=n)(u:iW V B n g U)(hD:∀t,t<n->D (g t))(h:Fo k g mid en b)
 (r0:R 0=.slice (some ⟨B,0,none⟩) n c)(r3:R 3=.af (b:Int))(r4:R 4=fv)(IA:R 18=.af (mid:Int)):Ok (L8 R (.af (en:Int)) U) λr=>r.1=.tuple #[]/\∃g3,iW V B n g3 r.2/\kR mid b g g3/\oF k g3 mid b:=by
 unfold L8;by_cases c1:mid<en
 ·have d1:decide ((mid:Int)<(en:Int))=true:=dj;by_cases c2:en<b
  ·have d2:decide ((en:Int)<(b:Int))=true:=dj;obtain⟨U1,g3,e1,e2,e3,e4⟩:=hS mid en b g U hd c1 c2 hb u hD h;simp only[SX,r0,r3,r4,IA,d1,d2,e1,ai];exact⟨ao,g3,e2,e3,e4⟩
  ·have d2:decide ((en:Int)<(b:Int))=false:=cN;simp only[SX,r0,r3,r4,IA,d1,d2,ai];exact⟨ao,g,u,.refl,h.l.sub (aM _) (by omega)⟩
 ·have d1:decide ((mid:Int)<(en:Int))=false:=cN;simp only[SX,r0,r3,r4,IA,d1,ai];exact⟨ao,g,u,.refl,h.r.sub (by omega) (aM _)⟩
def Fo.keep{g2:Nat->Int}{a':Nat}(p:kR a' mid g g2)(h:Fo k g mid en b)(h1:mid<=en):Fo k g2 mid en b:=by
 have e:∀t,mid<=t->g2 t=g t:=λt ht=>p.out (by omega)
 exact⟨λi j x1 x2 x3=>by rw[e i x1,e j (by omega)];exact h.l i j x1 x2 x3,λi j x1 x2 x3=>by rw[e i (by omega),e j (by omega)];exact h.r i j x1 x2 x3,λi j x1 x2 x3 x4=>by rw[e i x1,e j (by omega)];exact h.s i j x1 x2 x3 x4⟩
def Qu(hS:Yp V B n c fv k D d)(hd1:mid-a<d)(hd2:b-mid<d)(h1:a<=st)(h2:st<=mid)(h3:mid<=en)(h4:en<=b)(hb:b<=n)(u:iW V B n g U)(hD:∀t,t<n->D (g t))(h:Hlf k g a st mid en b)
 (r0:R 0=.slice (some ⟨B,0,none⟩) n c)(r1:R 1=.af (a:Int))(r3:R 3=.af (b:Int))(r4:R 4=fv)(IA:R 18=.af (mid:Int))(Sv:R 20=.af (st:Int)):Ok (Fa R (.af (en:Int)) U) λr=>r.1=.tuple #[]/\∃g3,iW V B n g3 r.2/\kR a b g g3/\oF k g3 a b:=by
 have key:∀g2 U2,iW V B n g2 U2->kR a mid g g2->oF k g2 a mid->Ok (L8 R (.af (en:Int)) U2) λr=>r.1=.tuple #[]/\∃g3,iW V B n g3 r.2/\kR a b g g3/\oF k g3 a b:=λg2 U2 u2 p2 s2=>by obtain⟨r,e1,e2,g3,e3,e4,e5⟩:=SZ hS hd2 h3 h4 hb u2 (p2.m8 (by omega) hD) (h.r.keep p2 h3) r0 r3 r4 IA;exact⟨r,e1,e2,g3,e3,(p2.mono (aM _) (by omega)).trans (e4.mono (by omega) (aM _)),h.join p2 s2 e4 e5⟩
 unfold Fa;by_cases c1:a<st
 ·have d1:decide ((a:Int)<(st:Int))=true:=dj;by_cases c2:st<mid
  ·have d2:decide ((st:Int)<(mid:Int))=true:=dj;obtain⟨U1,g2,e1,e2,e3,e4⟩:=hS a st mid g U hd1 c1 c2 (by omega) u hD h.l;simp only[SX,r0,r1,r4,IA,Sv,d1,d2,e1];exact key g2 U1 e2 e3 e4
  ·have d2:decide ((st:Int)<(mid:Int))=false:=cN;simp only[SX,r0,r1,r4,IA,Sv,d1,d2];exact key g U u .refl (h.l.l.sub (aM _) (by omega))
 ·have d1:decide ((a:Int)<(st:Int))=false:=cN;simp only[SX,r0,r1,r4,IA,Sv,d1];exact key g U u .refl (h.l.r.sub (by omega) (aM _))
def GM(hn:n<=10000)(hS:Yp V B n c fv k D d)(hd1:mid-a<d)(hd2:b-mid<d)(h1:a<=st)(h2:st<=m)(FB:st<=mid)(he:st+en=mid+m)(h3:m<=en)(h4:en<=b)(adH:mid<=en)(hb:b<=n)(u:iW V B n f U)(hD:∀t,t<n->D (f t))(h:Fo k f a m b)
 (f1:st=a\/en=b\/k (f (st-1))<=k (f en))(f2:st=m\/en=m\/k (f (en-1))<k (f st))
 (r0:R 0=.slice (some ⟨B,0,none⟩) n c)(r1:R 1=.af (a:Int))(r2:R 2=.af (m:Int))(r3:R 3=.af (b:Int))(r4:R 4=fv)(IA:R 18=.af (mid:Int))(WV:R 19=.af ((mid+m:Nat):Int))(Sv:R 20=.af (st:Int)):Ok (Xa R U) λr=>r.1=.tuple #[]/\∃g,iW V B n g r.2/\kR a b f g/\oF k g a b:=by
 have hh:=h.half h1 h2 FB he h3 h4 f1 f2;have key:∀U2,iW V B n (jp f st m en) U2->kR a b f (jp f st m en)->Ok (Fa R (.af (en:Int)) U2) λr=>r.1=.tuple #[]/\∃g,iW V B n g r.2/\kR a b f g/\oF k g a b:=λU2 u2 p=>by obtain⟨r,e1,e2,g,e3,e4,e5⟩:=Qu hS hd1 hd2 h1 FB adH h4 hb u2 (p.m8 hb hD) hh r0 r1 r3 r4 IA Sv;exact⟨r,e1,e2,g,e3,p.trans e4,e5⟩
 rw[PZ];have t1:=λt c d W'=>wS (a:=mid+m) (b:=st) (by omega) (by omega) t c d W'
 rw[show mid+m-st=en by omega]at t1;by_cases c1:st<m
 ·have d1:decide ((st:Int)<(m:Int))=true:=dj;by_cases c2:m<en
  ·have d2:decide ((m:Int)<(en:Int))=true:=dj;obtain⟨U1,e1,e2⟩:=Qs (c:=c) (fv:=fv) hn u c1 c2 (by omega);simp only[SX,r0,r2,r4,WV,Sv,t1,d1,d2,e1];exact key U1 e2 ((JC f c1 c2).mono h1 h4)
  ·have d2:decide ((m:Int)<(en:Int))=false:=cN;simp only[SX,r0,r2,r4,WV,Sv,t1,d1,d2];have e:∀t,f t=jp f st m en t:=λt=>by
    unfold jp;split
    ·omega
    ·split
     ·congr 1;omega
     ·rfl
   refine key U (u.congr e) ?_;rw[<-show f=jp f st m en from funext e];exact .refl
 ·have d1:decide ((st:Int)<(m:Int))=false:=cN;simp only[SX,r0,r2,r4,WV,Sv,t1,d1];have e:∀t,f t=jp f st m en t:=λt=>by
   unfold jp;split
   ·congr 1;omega
   ·split
    ·omega
    ·rfl
  refine key U (u.congr e) ?_;rw[<-show f=jp f st m en from funext e];exact .refl
end
section
variable {ρ:Type} {V U W:AW} {B n c:Nat} {f g:Nat->Int} {fv:ad} {k:Int->Int} {D:Int->Prop} {R:ah.Fr} {K:LT->Option ρ} {G:ρ->Prop} {a m b:Nat}
def VF(hn:n<=10000)(hc:Cz V B n fv k D)(hD:∀t,t<n->D (f t))(u:iW V B n f U)(h1:a<m)(h2:m<=b)(hb:b<=n)(hs:oF k f m b)
 (q0:R 0=.slice (some ⟨B,0,none⟩) n c)(q1:R 1=.af (a:Int))(q4:R 4=fv)(Wa:R 10=.af (m:Int))(q11:R 11=.af (b:Int))
 (hk:∀(R':ah.Fr) (i:Nat),m<=i->i<=b->(∀x,m<=x->x<i->k (f x)<k (f a))->(∀x,i<=x->x<b->k (f a)<=k (f x))->R' 0=.slice (some ⟨B,0,none⟩) n c->R' 1=.af (a:Int)->R' 10=.af (i:Int)->Ok (K (X.exit 0,R',U)) G):
 Ok (dN (ge (dq bf) R U) K) G:=by
 refine bz (b-m) (by omega) (λq Q U'=>U'=U/\Q 0=.slice (some ⟨B,0,none⟩) n c/\Q 1=.af (a:Int)/\Q 4=fv/\∃i j:Nat,Q 10=.af (i:Int)/\Q 11=.af (j:Int)/\m<=i/\i<=j/\j<=b/\j-i+q<=b-m/\(∀x,m<=x->x<i->k (f x)<k (f a))/\∀x,j<=x->x<b->k (f a)<=k (f x))
  (λr=>r.1=.exit 0/\r.2.2=U/\r.2.1 0=.slice (some ⟨B,0,none⟩) n c/\r.2.1 1=.af (a:Int)/\∃i:Nat,r.2.1 10=.af (i:Int)/\m<=i/\i<=b/\(∀x,m<=x->x<i->k (f x)<k (f a))/\∀x,i<=x->x<b->k (f a)<=k (f x))
  ⟨rfl,q0,q1,q4,m,b,Wa,q11,by omega,by omega,by omega,by omega,λx y z=>by omega,λx y z=>by omega⟩ ?_ ?_ ?_
 ·rintro q Q U' hq ⟨rfl,z0,z1,z4,i,j,MW,z11,a1,a2,a3,a4,a5,a6⟩;unfold dq;by_cases e:i=j
  ·subst e;have t1:¬((i:Int)<(i:Int)):=by omega
   simp only[SX,MW,z11,t1,ai];exact .inr ⟨by simp,ao,ao,z0,z1,i,MW,a1,a3,a5,a6⟩
  ·have t1:((i:Int)<(j:Int)):=by omega
   obtain⟨x,hx⟩:∃x,x=(i+j)/2:=⟨_,rfl⟩;have ta:=λt c d W'=>uh (a:=i) (b:=j) (by omega) t c d W'
   have tb:=λW'=>JW (n:=i+j) (by omega) W'
   have tc:=λW'=>Ex (i+j) W'
   rw[<-hx]at tc;have td:=λW'=>cv3 (n:=x) (by omega) W'
   have tf:=λt c d W'=>LV (a:=x) (by omega) t c d W'
   obtain⟨cv,c1,c2⟩:=hc U' f u (f x) (f a) (hD _ (by omega)) (hD _ (by omega));have x1:∀k W',nR 1 (.slice (some ⟨B,0,none⟩) n c) (.int k (x:Int)) W'=some (.pointer (some ⟨B,x,none⟩),W'):=λk W'=>LF (by omega) k W'
   have x2:∀k W',nR 1 (.slice (some ⟨B,0,none⟩) n c) (.int k (a:Int)) W'=some (.pointer (some ⟨B,a,none⟩),W'):=λk W'=>LF (by omega) k W'
   by_cases lt:cv<0
   ·have d1:=be lt;simp only[SX,z0,z1,z4,MW,z11,t1,ta,tb,tc,td,x1,x2,u.ld (i:=x) (by omega),u.ld (i:=a) (by omega),c1,d1,tf,ai];refine .inl ⟨ao,ao,z0,z1,z4,x+1,j,rfl,z11,by omega,by omega,a3,by omega,λy y1 y2=>?_,a6⟩;have:=hs.le (i:=y) (j:=x) y1 (by omega) (by omega);have:=c2.1 lt;omega
   ·have d1:=bm lt;simp only[SX,z0,z1,z4,MW,z11,t1,ta,tb,tc,td,x1,x2,u.ld (i:=x) (by omega),u.ld (i:=a) (by omega),c1,d1,tf,ai];refine .inl ⟨ao,ao,z0,z1,z4,i,x,MW,rfl,by omega,by omega,by omega,by omega,a5,λy y1 y2=>?_⟩;have:=hs.le (i:=x) (j:=y) (by omega) y1 y2;have:¬k (f x)<k (f a):=λh=>lt (c2.2 h)
    omega
 ·rintro Q U' ⟨rfl,z0,z1,z4,i,j,MW,z11,a1,a2,a3,a4,a5,a6⟩;have e:i=j:=by omega
  subst e;unfold dq;have t1:¬((i:Int)<(i:Int)):=by omega
  simp only[SX,MW,z11,t1,ai];exact⟨by simp,ao,ao,z0,z1,i,MW,a1,a3,a5,a6⟩
 ·rintro⟨q,Q,U'⟩ ⟨rfl,rfl,z0,z1,i,MW,a1,a3,a5,a6⟩;exact hk Q i a1 a3 a5 a6 z0 z1 MW
def Un(hn:n<=10000)(u:iW V B n f U){i:Nat}(h1:a+1<=i)(hb:i<=n)
 (q0:R 0=.slice (some ⟨B,0,none⟩) n c)(Wa:R 10=.af (i:Int))(q13:R 13=.af (a:Int))
 (hk:∀(R':ah.Fr) (U':AW),iW V B n (jp f a (a+1) i) U'->Ok (K (X.exit 2,R',U')) G):
 Ok (dN (ge (dw bf) R U) K) G:=by
 have ts:=λt c d W'=>Xd (a:=i) (by omega) (by omega) t c d W'
 refine bz (i-1-a) (by omega) (λq Q U'=>Q 0=.slice (some ⟨B,0,none⟩) n c/\Q 10=.af (i:Int)/\Q 13=.af ((a+q:Nat):Int)/\iW V B n (jp f a (a+1) (a+1+q)) U')
  (λr=>r.1=.exit 2/\iW V B n (jp f a (a+1) i) r.2.2) ⟨q0,Wa,q13,u.congr λt=>?_⟩ ?_ ?_ ?_
 ·unfold jp;split
  ·omega
  ·split
   ·congr 1;omega
   ·rfl
 ·rintro q Q U' hq ⟨z0,MW,z13,u'⟩;unfold dw;have t1:(((a+q:Nat):Int)<((i-1:Nat):Int)):=by omega
  have tf:=λt c d W'=>LV (a:=a+q) (by omega) t c d W'
  have x1:∀k W',nR 1 (.slice (some ⟨B,0,none⟩) n c) (.int k ((a+q:Nat):Int)) W'=some (.pointer (some ⟨B,a+q,none⟩),W'):=λk W'=>LF (by omega) k W'
  have x2:∀k W',nR 1 (.slice (some ⟨B,0,none⟩) n c) (.int k ((a+q+1:Nat):Int)) W'=some (.pointer (some ⟨B,a+q+1,none⟩),W'):=λk W'=>LF (by omega) k W'
  obtain⟨s1,u1⟩:=u'.st (i:=a+q) (by omega) (jp f a (a+1) (a+1+q) (a+q+1));obtain⟨s2,u2⟩:=u1.st (i:=a+q+1) (by omega) (jp f a (a+1) (a+1+q) (a+q));simp only[SX,z0,MW,z13,ts,t1,tf,x1,x2,u'.ld (i:=a+q) (by omega),u'.ld (i:=a+q+1) (by omega),s1,s2,ai];refine .inl ⟨ao,z0,MW,rfl,u2.congr λt=>?_⟩;unfold jp;repeat' split
  all_goals first|omega|rfl|(congr 1;omega)
 ·rintro Q U' ⟨z0,MW,z13,u'⟩;unfold dw;have t1:¬(((a+(i-1-a):Nat):Int)<((i-1:Nat):Int)):=by omega
  simp only[SX,MW,z13,ts,t1,ai];exact⟨by simp,ao,u'.congr λt=>by rw[show a+1+(i-1-a)=i by omega]⟩
 ·rintro⟨q,Q,U'⟩ ⟨rfl,u'⟩;exact hk Q U' u'
def Vf(hn:n<=10000)(hc:Cz V B n fv k D)(hD:∀t,t<n->D (f t))(u:iW V B n f U)(h1:a<=m)(h2:m<n)(hs:oF k f a m)
 (q0:R 0=.slice (some ⟨B,0,none⟩) n c)(q2:R 2=.af (m:Int))(q4:R 4=fv)(q14:R 14=.af (a:Int))(q15:R 15=.af (m:Int))
 (hk:∀(R':ah.Fr) (i:Nat),a<=i->i<=m->(∀x,a<=x->x<i->k (f x)<=k (f m))->(∀x,i<=x->x<m->k (f m)<k (f x))->R' 0=.slice (some ⟨B,0,none⟩) n c->R' 2=.af (m:Int)->R' 14=.af (i:Int)->Ok (K (X.exit 4,R',U)) G):
 Ok (dN (ge (dn bf) R U) K) G:=by
 refine bz (m-a) (by omega) (λq Q U'=>U'=U/\Q 0=.slice (some ⟨B,0,none⟩) n c/\Q 2=.af (m:Int)/\Q 4=fv/\∃i j:Nat,Q 14=.af (i:Int)/\Q 15=.af (j:Int)/\a<=i/\i<=j/\j<=m/\j-i+q<=m-a/\(∀x,a<=x->x<i->k (f x)<=k (f m))/\∀x,j<=x->x<m->k (f m)<k (f x))
  (λr=>r.1=.exit 4/\r.2.2=U/\r.2.1 0=.slice (some ⟨B,0,none⟩) n c/\r.2.1 2=.af (m:Int)/\∃i:Nat,r.2.1 14=.af (i:Int)/\a<=i/\i<=m/\(∀x,a<=x->x<i->k (f x)<=k (f m))/\∀x,i<=x->x<m->k (f m)<k (f x))
  ⟨rfl,q0,q2,q4,a,m,q14,q15,by omega,by omega,by omega,by omega,λx y z=>by omega,λx y z=>by omega⟩ ?_ ?_ ?_
 ·rintro q Q U' hq ⟨rfl,z0,z2,z4,i,j,NQ,z15,a1,a2,a3,a4,a5,a6⟩;unfold dn;by_cases e:i=j
  ·subst e;have t1:¬((i:Int)<(i:Int)):=by omega
   simp only[SX,NQ,z15,t1,ai];exact .inr ⟨by simp,ao,ao,z0,z2,i,NQ,a1,a3,a5,a6⟩
  ·have t1:((i:Int)<(j:Int)):=by omega
   obtain⟨x,hx⟩:∃x,x=(i+j)/2:=⟨_,rfl⟩;have ta:=λt c d W'=>uh (a:=i) (b:=j) (by omega) t c d W'
   have tb:=λW'=>JW (n:=i+j) (by omega) W'
   have tc:=λW'=>Ex (i+j) W'
   rw[<-hx]at tc;have td:=λW'=>cv3 (n:=x) (by omega) W'
   have tf:=λt c d W'=>LV (a:=x) (by omega) t c d W'
   obtain⟨cv,c1,c2⟩:=hc U' f u (f m) (f x) (hD _ (by omega)) (hD _ (by omega));have x1:∀k W',nR 1 (.slice (some ⟨B,0,none⟩) n c) (.int k (x:Int)) W'=some (.pointer (some ⟨B,x,none⟩),W'):=λk W'=>LF (by omega) k W'
   have x2:∀k W',nR 1 (.slice (some ⟨B,0,none⟩) n c) (.int k (m:Int)) W'=some (.pointer (some ⟨B,m,none⟩),W'):=λk W'=>LF (by omega) k W'
   by_cases lt:cv<0
   ·have d1:=be lt;simp only[SX,z0,z2,z4,NQ,z15,t1,ta,tb,tc,td,x1,x2,u.ld (i:=x) (by omega),u.ld (i:=m) (by omega),c1,d1,tf,ai];refine .inl ⟨ao,ao,z0,z2,z4,i,x,NQ,rfl,by omega,by omega,by omega,by omega,a5,λy y1 y2=>?_⟩;have:=hs.le (i:=x) (j:=y) (by omega) y1 y2;have:=c2.1 lt;omega
   ·have d1:=bm lt;simp only[SX,z0,z2,z4,NQ,z15,t1,ta,tb,tc,td,x1,x2,u.ld (i:=x) (by omega),u.ld (i:=m) (by omega),c1,d1,tf,ai];refine .inl ⟨ao,ao,z0,z2,z4,x+1,j,rfl,z15,by omega,by omega,a3,by omega,λy y1 y2=>?_,a6⟩;have:=hs.le (i:=y) (j:=x) y1 (by omega) (by omega);have:¬k (f m)<k (f x):=λh=>lt (c2.2 h)
    omega
 ·rintro Q U' ⟨rfl,z0,z2,z4,i,j,NQ,z15,a1,a2,a3,a4,a5,a6⟩;have e:i=j:=by omega
  subst e;unfold dn;have t1:¬((i:Int)<(i:Int)):=by omega
  simp only[SX,NQ,z15,t1,ai];exact⟨by simp,ao,ao,z0,z2,i,NQ,a1,a3,a5,a6⟩
 ·rintro⟨q,Q,U'⟩ ⟨rfl,rfl,z0,z2,i,NQ,a1,a3,a5,a6⟩;exact hk Q i a1 a3 a5 a6 z0 z2 NQ
def SV(hn:n<=10000)(u:iW V B n f U){i:Nat}(h1:i<=m)(hb:m<n)
 (q0:R 0=.slice (some ⟨B,0,none⟩) n c)(q14:R 14=.af (i:Int))(q17:R 17=.af (m:Int))
 (hk:∀(R':ah.Fr) (U':AW),iW V B n (jp f i m (m+1)) U'->Ok (K (X.exit 6,R',U')) G):
 Ok (dN (ge (dp bf) R U) K) G:=by
 refine bz (m-i) (by omega) (λq Q U'=>Q 0=.slice (some ⟨B,0,none⟩) n c/\Q 14=.af (i:Int)/\∃j:Nat,j+q=m/\Q 17=.af (j:Int)/\iW V B n (jp f j m (m+1)) U')
  (λr=>r.1=.exit 6/\iW V B n (jp f i m (m+1)) r.2.2) ⟨q0,q14,m,rfl,q17,u.congr λt=>?_⟩ ?_ ?_ ?_
 ·unfold jp;split
  ·congr 1;omega
  ·split
   ·omega
   ·rfl
 ·rintro q Q U' hq ⟨z0,NQ,j,hj,z17,u'⟩;unfold dp;have t1:((i:Int)<(j:Int)):=by omega
  have ts:=λt c d W'=>Xd (a:=j) (by omega) (by omega) t c d W'
  have x1:∀k W',nR 1 (.slice (some ⟨B,0,none⟩) n c) (.int k (j:Int)) W'=some (.pointer (some ⟨B,j,none⟩),W'):=λk W'=>LF (by omega) k W'
  have x2:∀k W',nR 1 (.slice (some ⟨B,0,none⟩) n c) (.int k ((j-1:Nat):Int)) W'=some (.pointer (some ⟨B,j-1,none⟩),W'):=λk W'=>LF (by omega) k W'
  obtain⟨s1,u1⟩:=u'.st (i:=j) (by omega) (jp f j m (m+1) (j-1));obtain⟨s2,u2⟩:=u1.st (i:=j-1) (by omega) (jp f j m (m+1) j);simp only[SX,z0,NQ,z17,ts,t1,x1,x2,u'.ld (i:=j) (by omega),u'.ld (i:=j-1) (by omega),s1,s2,ai];refine .inl ⟨ao,z0,NQ,j-1,by omega,rfl,u2.congr λt=>?_⟩;unfold jp;repeat' split
  all_goals first|omega|rfl|(congr 1;omega)
 ·rintro Q U' ⟨z0,NQ,j,hj,z17,u'⟩;have e:j=i:=by omega
  subst e;unfold dp;have t1:¬((j:Int)<(j:Int)):=by omega
  simp only[SX,NQ,z17,t1,ai];exact⟨by simp,ao,u'⟩
 ·rintro⟨q,Q,U'⟩ ⟨rfl,u'⟩;exact hk Q U' u'
end
def Kf(f:Nat->Int)(a b t:Nat):jp f a b b t=f t/\jp f a a b t=f t:=by unfold jp;refine⟨?_,?_⟩<;>(split;first|omega|(congr 1;omega))<;>split<;>first|omega|rfl|(congr 1;omega)
def J4(f:Nat->Int){a m b:Nat}(h1:a<=m)(h2:m<=b):kR a b f (jp f a m b):=by
 by_cases c1:a<m
 ·by_cases c2:m<b
  ·exact JC f c1 c2
  ·have:m=b:=by omega
   subst this;rw[show jp f a m m=f from funext λt=>(Kf f a m t).1];exact .refl
 ·have:a=m:=by omega
  subst this;rw[show jp f a a b=f from funext λt=>(Kf f a b t).2];exact .refl
section
variable {V U W:AW} {B n c:Nat} {f g:Nat->Int} {fv:ad} {k:Int->Int} {D:Int->Prop} {a m b:Nat}
def Fo.first{i:Nat}(h:Fo k f a (a+1) b)(h1:a+1<=i)(h2:i<=b)(s1:∀x,a+1<=x->x<i->k (f x)<k (f a))(s2:∀x,i<=x->x<b->k (f a)<=k (f x)):oF k (jp f a (a+1) i) a b:=by
 have ra:∀t,a<=t->t<i-1->jp f a (a+1) i t=f (t+1):=λt x y=>by unfold jp;rw[kE];congr 1;omega
 have rb:jp f a (a+1) i (i-1)=f a:=by unfold jp;rw[bK,kE];congr 1;omega
 have rc:∀t,i<=t->jp f a (a+1) i t=f t:=λt x=>by unfold jp;rw[bK,bK]
 intro s t x1 x2 x3;by_cases c1:s<i-1
 ·rw[ra s x1 c1];by_cases c2:t<i-1
  ·rw[ra t (by omega) c2];exact h.r _ _ (by omega) (by omega) (by omega)
  ·by_cases c3:t=i-1
   ·rw[c3,rb];exact .inl (s1 _ (by omega) (by omega))
   ·rw[rc t (by omega)];exact h.r _ _ (by omega) (by omega) x3
 ·by_cases c2:s=i-1
  ·rw[c2,rb,rc t (by omega)];have:=s2 t (by omega) x3;have:=h.s a t (by omega) (by omega) (by omega) x3;unfold GF;omega
  ·rw[rc s (by omega),rc t (by omega)];exact h.r _ _ (by omega) x2 x3
def Fo.last{i:Nat}(h:Fo k f a m (m+1))(h1:a<=i)(h2:i<=m)(s1:∀x,a<=x->x<i->k (f x)<=k (f m))(s2:∀x,i<=x->x<m->k (f m)<k (f x)):oF k (jp f i m (m+1)) a (m+1):=by
 have ra:∀t,t<i->jp f i m (m+1) t=f t:=λt x=>by unfold jp;rw[bK,bK]
 have rb:jp f i m (m+1) i=f m:=by unfold jp;rw[kE];congr 1;omega
 have rc:∀t,i<t->t<=m->jp f i m (m+1) t=f (t-1):=λt x y=>by unfold jp;rw[bK,kE];congr 1;omega
 intro s t x1 x2 x3;by_cases c1:s<i
 ·rw[ra s c1];by_cases c2:t<i
  ·rw[ra t c2];exact h.l _ _ x1 x2 (by omega)
  ·by_cases c3:t=i
   ·rw[c3,rb];have:=s1 s x1 c1;have:=h.s s m x1 (by omega) (by omega) (by omega);unfold GF;omega
   ·rw[rc t (by omega) (by omega)];exact h.l _ _ x1 (by omega) (by omega)
 ·by_cases c2:s=i
  ·rw[c2,rb,rc t (by omega) (by omega)];exact .inl (s2 _ (by omega) (by omega))
  ·rw[rc s (by omega) (by omega),rc t (by omega) (by omega)];exact h.l _ _ (by omega) (by omega) (by omega)
def uJ(hn:n<=10000)(hc:Cz V B n fv k D):∀d,Yp V B n c fv k D d
 |0=>λa m b f W h=>by omega
 |d+1=>by
  intro a m b f W hd h1 h2 hb hW hD h;have ih:=uJ hn hc d;refine D3 (Q:=λg=>kR a b f g/\oF k g a b) ?_ hW nB;unfold jy;have s1:=λt c d W'=>wS (a:=m) (b:=a) (by omega) (by omega) t c d W'
  by_cases e1:m-a=1
  ·have d1:decide (((m-a:Nat):Int)=1)=true:=dj;obtain rfl:m=a+1:=by omega
   simp only[SX,s1,d1];refine VF (c:=c) (a:=a) (m:=a+1) (b:=b) hn hc hD hW (by omega) (by omega) hb h.r ?_ ?_ ?_ ?_ ?_ λR' i i1 i2 i3 i4 r0 r1 sr=>?_
   ·rfl
   ·rfl
   ·rfl
   ·rfl
   ·rfl
   simp only[SX,r1];refine Un (c:=c) (a:=a) (i:=i) hn hW i1 (by omega) ?_ ?_ ?_ λR'' U' u'=>?_
   ·exact r0
   ·exact sr
   ·rfl
   simp only[SX,ai];exact⟨ao,_,u',(J4 f (by omega) i1).mono (aM _) i2,h.first i1 i2 i3 i4⟩
  have d1:decide (((m-a:Nat):Int)=1)=false:=cN;have s2:=λt c d W'=>wS (a:=b) (b:=m) (by omega) (by omega) t c d W'
  by_cases e2:b-m=1
  ·have d2:decide (((b-m:Nat):Int)=1)=true:=dj;obtain rfl:b=m+1:=by omega
   simp only[SX,s1,d1,s2,d2];refine Vf (c:=c) (a:=a) (m:=m) hn hc hD hW (by omega) (by omega) h.l ?_ ?_ ?_ ?_ ?_ λR' i i1 i2 i3 i4 r0 r2 MD=>?_
   ·rfl
   ·rfl
   ·rfl
   ·rfl
   ·rfl
   simp only[SX,r2];refine SV (c:=c) (m:=m) (i:=i) hn hW i2 (by omega) ?_ ?_ ?_ λR'' U' u'=>?_
   ·exact r0
   ·exact MD
   ·rfl
   simp only[SX,ai];exact⟨ao,_,u',(J4 f i2 (by omega)).mono i1 (aM _),h.last i1 i2 i3 i4⟩
  have d2:decide (((b-m:Nat):Int)=1)=false:=cN;obtain⟨mid,adH⟩:∃mid,mid=(a+b)/2:=⟨_,rfl⟩;have ta:=λt c d W'=>uh (a:=a) (b:=b) (by omega) t c d W'
  have tb:=λW'=>JW (n:=a+b) (by omega) W'
  have tc:=λW'=>Ex (a+b) W'
  rw[<-adH]at tc;have td:=λW'=>cv3 (n:=mid) (by omega) W'
  have te:=λt c d W'=>uh (a:=mid) (b:=m) (by omega) t c d W'
  have tp:=λt c d W'=>Xd (a:=mid+m) (by omega) (by omega) t c d W'
  by_cases lt:mid<m
  ·have d3:decide ((mid:Int)<(m:Int))=true:=dj;have tg:=λt c d W'=>wS (a:=mid+m) (b:=b) (by omega) (by omega) t c d W'
   simp only[SX,s1,d1,s2,d2,ta,tb,tc,td,te,d3,tg,tp];refine NM (c:=c) (s0:=mid+m-b) (r0:=mid) (p:=mid+m-1) hn hc hD hW (by omega) (by omega) (by omega) (λx x1 x2=>by omega) (λx y x1 x2 x3=>h.l.le (by omega) x2 (by omega)) (λx y x1 x2 x3=>h.r.le (by omega) (by omega) (by omega)) ?_ ?_ ?_ ?_ ?_ λR' st y1 y2 y3 y4 r0 r1 r2 r3 r4 IA WV Sv=>?_
   ·rfl
   ·rfl
   ·rfl
   ·rfl
   ·rfl
   exact GM (a:=a) (m:=m) (b:=b) (st:=st) (mid:=mid) (en:=mid+m-st) hn ih (by omega) (by omega) (by omega) (by omega) (by omega) (by omega) (by omega) (by omega) (by omega) hb hW hD h
    (by
      by_cases c:st=mid+m-b
      ·exact .inr (.inl (by omega))
      ·have:=y3 (st-1) (by omega) (by omega);rw[show mid+m-1-(st-1)=mid+m-st by omega]at this;exact .inr (.inr this))
    (by
      by_cases c:st=mid
      ·exact .inr (.inl (by omega))
      ·have:=y4 st (by omega) (by omega);rw[show mid+m-1-st=mid+m-st-1 by omega]at this;exact .inr (.inr this)) r0 r1 r2 r3 r4 IA WV Sv
  ·have d3:decide ((mid:Int)<(m:Int))=false:=cN;simp only[SX,s1,d1,s2,d2,ta,tb,tc,td,te,d3,tp];refine N8 (c:=c) (s0:=a) (r0:=m) (p:=mid+m-1) hn hc hD hW (by omega) (by omega) (by omega) (λx x1 x2=>by omega) (λx y x1 x2 x3=>h.l.le (by omega) x2 (by omega)) (λx y x1 x2 x3=>h.r.le (by omega) (by omega) (by omega)) ?_ ?_ ?_ ?_ ?_ λR' st y1 y2 y3 y4 r0 r1 r2 r3 r4 IA WV Sv=>?_
   ·rfl
   ·rfl
   ·rfl
   ·rfl
   ·rfl
   exact GM (a:=a) (m:=m) (b:=b) (st:=st) (mid:=mid) (en:=mid+m-st) hn ih (by omega) (by omega) (by omega) (by omega) (by omega) (by omega) (by omega) (by omega) (by omega) hb hW hD h
    (by
      by_cases c:st=a
      ·exact .inl c
      ·have:=y3 (st-1) (by omega) (by omega);rw[show mid+m-1-(st-1)=mid+m-st by omega]at this;exact .inr (.inr this))
    (by
      by_cases c:st=m
      ·exact .inl c
      ·have:=y4 st (by omega) (by omega);rw[show mid+m-1-st=mid+m-st-1 by omega]at this;exact .inr (.inr this)) r0 r1 r2 r3 r4 IA WV Sv
end
def Kp(s n:Nat)(f g:Nat->Int):Prop:=∀q i,(i<q*s->∃j,j<q*s/\g i=f j)/\(q*s<=i->i<n->∃j,q*s<=j/\j<n/\g i=f j)
def Kp.refl(s n:Nat)(f:Nat->Int):Kp s n f f:=λq i=>⟨λh=>⟨i,h,rfl⟩,λh1 h2=>⟨i,h1,h2,rfl⟩⟩
def Kp.trans{s n:Nat}{f g h:Nat->Int}(a:Kp s n f g)(b:Kp s n g h):Kp s n f h:=λq i=>by
 refine⟨λh1=>?_,λh1 h2=>?_⟩
 ·obtain⟨j,j1,e⟩:=(b q i).1 h1;obtain⟨j',j1',e'⟩:=(a q j).1 j1;exact⟨j',j1',e.trans e'⟩
 ·obtain⟨j,j1,j2,e⟩:=(b q i).2 h1 h2;obtain⟨j',j1',j2',e'⟩:=(a q j).2 j1 j2;exact⟨j',j1',j2',e.trans e'⟩
def kR.kp{s n b q0:Nat}{f g:Nat->Int}(p:kR (q0*s) b f g)(h1:b<=q0*s+s)(h2:b<=n):Kp s n f g:=λq i=>by
 by_cases c:q0*s<=i/\i<b
 ·obtain⟨j,j1,j2,e⟩:=p.sub i c.1 c.2;refine⟨λh=>⟨j,?_,e⟩,λh3 h4=>⟨j,?_,by omega,e⟩⟩
  ·by_cases d:q<=q0
   ·have:=lU s d;omega
   ·have:=lU s (show q0+1<=q by omega);rw[gZ,iI]at this;omega
  ·by_cases d:q<=q0
   ·have:=lU s d;omega
   ·have:=lU s (show q0+1<=q by omega);rw[gZ,iI]at this;omega
 ·exact⟨λh=>⟨i,h,p.out c⟩,λh3 h4=>⟨i,h3,h4,p.out c⟩⟩
def Sep(s n:Nat)(f:Nat->Int):Prop:=∀q i j,i<q*s->q*s<=j->j<n->f i<f j
def Sep.keep{s n:Nat}{f g:Nat->Int}(h:Sep s n f)(p:Kp s n f g):Sep s n g:=λq i j h1 h2 h3=>by obtain⟨i',i1,e⟩:=(p q i).1 h1;obtain⟨j',j1,j2,e'⟩:=(p q j).2 h2 h3;rw[e,e'];exact h q i' j' i1 j1 j2
def Blk(k:Int->Int)(s n:Nat)(f:Nat->Int):Prop:=∀q,oF k f (q*s) (min n (q*s+s))
section
variable {V U W:AW} {B n c:Nat} {f g:Nat->Int} {fv:ad} {k:Int->Int} {D:Int->Prop}
def oF.FM{a b:Nat}(h:oF k f a b)(e:∀t,a<=t->t<b->g t=f t):oF k g a b:=λi j x1 x2 x3=>by rw[e i x1 (by omega),e j (by omega) x3];exact h i j x1 x2 x3
def Fo.of{s q b:Nat}(hb:Blk k s n f)(hs:Sep s n f)(h1:2*q*s+s<b)(h2:b<=n)(h3:b<=2*q*s+s+s):Fo k f (2*q*s) (2*q*s+s) b:=by
 have e:(2*q+1)*s=2*q*s+s:=by rw[gZ,iI]
 refine⟨(hb (2*q)).sub (aM _) (by omega),?_,λi j x1 x2 x3 x4=>hs (2*q+1) i j (by omega) (by omega) (by omega)⟩;have:=hb (2*q+1);rw[e]at this;exact this.sub (aM _) (by omega)
end
def aeo{a b:Nat}(h:a*b<1000000000000)(t:ae)(c d:Bool)(W:AW):bs Tryz.prog .mul t c d (.af (a:Int)) (.af (b:Int)) W=some (.af ((a*b:Nat):Int),W):=by
 have e:(a:Int)*(b:Int)=((a*b:Nat):Int):=by rw[Int.natCast_mul]
 rw[SE (by rw[e];omega) (by rw[e];omega),e]
section
variable {ρ:Type} {V U W:AW} {B n c:Nat} {f g:Nat->Int} {fv:ad} {k:Int->Int} {D:Int->Prop} {R:ah.Fr} {K:LT->Option ρ} {G:ρ->Prop}
def Fo.FM{a m b:Nat}(h:Fo k f a m b)(h1:a<=m)(h2:m<=b)(e:∀t,a<=t->t<b->g t=f t):Fo k g a m b:=
 ⟨h.l.FM λt x y=>e t x (by omega),h.r.FM λt x y=>e t (by omega) y,λs t x1 x2 x3 x4=>by rw[e s x1 (by omega),e t (by omega) x4];exact h.s s t x1 x2 x3 x4⟩
def TQ(hn:n<=10000)(hc:Cz V B n fv k D)(hD:∀t,t<n->D (f t))(hf:∀i j,i<j->j<n->f i<f j)(hW:iW V B n f U)
 (q0:R 0=.slice (some ⟨B,0,none⟩) n c)(q1:R 1=.af (n:Int))(q2:R 2=fv)(q6:R 6=.af 20)(q7:R 7=.af 0)(q8:R 8=.af 20)
 (hk:∀(R':ah.Fr) (U':AW) (q:Nat) (g:Nat->Int),R' 0=.slice (some ⟨B,0,none⟩) n c->R' 1=.af (n:Int)->R' 2=fv->R' 6=.af 20->R' 7=.af ((q*20:Nat):Int)->q*20<=n->n<q*20+20->iW V B n g U'->Kp 20 n f g->kR 0 n f g->(∀p,p<q->oF k g (p*20) (p*20+20))->(∀t,q*20<=t->g t=f t)->Ok (K (X.exit 0,R',U')) G):
 Ok (dN (ge (cO bf) R U) K) G:=by
 refine bz (n/20) (by omega) (λq Q U=>Q 0=.slice (some ⟨B,0,none⟩) n c/\Q 1=.af (n:Int)/\Q 2=fv/\Q 6=.af 20/\Q 7=.af ((q*20:Nat):Int)/\Q 8=.af ((q*20+20:Nat):Int)/\∃g,iW V B n g U/\Kp 20 n f g/\kR 0 n f g/\(∀p,p<q->oF k g (p*20) (p*20+20))/\∀t,q*20<=t->g t=f t)
  (λr=>r.1=.exit 0/\r.2.1 0=.slice (some ⟨B,0,none⟩) n c/\r.2.1 1=.af (n:Int)/\r.2.1 2=fv/\r.2.1 6=.af 20/\r.2.1 7=.af ((n/20*20:Nat):Int)/\∃g,iW V B n g r.2.2/\Kp 20 n f g/\kR 0 n f g/\(∀p,p<n/20->oF k g (p*20) (p*20+20))/\∀t,n/20*20<=t->g t=f t)
  ⟨q0,q1,q2,q6,q7,q8,f,hW,.refl _ _ _,.refl,λp hp=>by omega,λt _=>rfl⟩ ?_ ?_ ?_
 ·rintro q Q U hq ⟨z0,z1,z2,z6,z7,z8,g,u,kp,p,s,l⟩;unfold cO;have t1:decide (((q*20+20:Nat):Int)<=(n:Int))=true:=dj;have ta:∀t c d W',bs Tryz.prog .add t c d (.af ((q*20+20:Nat):Int)) (.af 20) W'=some (.af ((q*20+20+20:Nat):Int),W'):=λt c d W'=>uh (a:=q*20+20) (b:=20) (by omega) t c d W'
  obtain⟨U1,g1,e1,e2,e3,e4⟩:=yr (c:=c) (a:=q*20) (b:=q*20+20) hn hc (p.m8 (aM _) hD) u (by omega) (by omega) (λi j x1 x2 x3=>by rw[l i x1,l j (by omega)];exact hf i j x2 (by omega));simp only[SX,z0,z1,z2,z6,z7,z8,t1,e1,ta,ai];refine .inl ⟨ao,z0,z1,z2,z6,by rw[gZ,iI];rfl,by rw[gZ,iI];rfl,g1,e2,kp.trans (e3.kp (aM _) (by omega)),p.trans (e3.mono (mP _) (by omega)),λr hr=>?_,λt ht=>?_⟩
  ·by_cases c:r=q
   ·rw[c];exact e4
   ·exact(s r (by omega)).FM λt x y=>e3.out (by omega)
  ·rw[gZ,iI]at ht;rw[e3.out (by omega)];exact l t (by omega)
 ·rintro Q U ⟨z0,z1,z2,z6,z7,z8,g,u,kp,p,s,l⟩;unfold cO;have t1:decide (((n/20*20+20:Nat):Int)<=(n:Int))=false:=cN;simp only[SX,z1,z8,t1,ai];exact⟨by simp,ao,z0,z1,z2,z6,z7,g,u,kp,p,s,l⟩
 ·rintro⟨e,Q,U⟩ ⟨rfl,z0,z1,z2,z6,z7,g,u,kp,p,s,l⟩;exact hk Q U (n/20) g z0 z1 z2 z6 z7 (by omega) (by omega) u kp p s l
def VS{s:Nat}(hn:n<=10000)(hc:Cz V B n fv k D)(hD:∀t,t<n->D (f t))(hb:Blk k s n f)(hs:Sep s n f)(h0:0<s)(hsn:s<n)(hW:iW V B n f U)
 (q0:R 0=.slice (some ⟨B,0,none⟩) n c)(q1:R 1=.af (n:Int))(q2:R 2=fv)(q6:R 6=.af (s:Int))(q7:R 7=.af 0)(q8:R 8=.af ((2*s:Nat):Int))
 (hk:∀(R':ah.Fr) (U':AW) (q:Nat) (g:Nat->Int),R' 0=.slice (some ⟨B,0,none⟩) n c->R' 1=.af (n:Int)->R' 2=fv->R' 6=.af (s:Int)->R' 7=.af ((q*(2*s):Nat):Int)->q*(2*s)<=n->n<q*(2*s)+2*s->iW V B n g U'->Kp (2*s) n f g->kR 0 n f g->(∀p,p<q->oF k g (p*(2*s)) (p*(2*s)+2*s))->(∀t,q*(2*s)<=t->g t=f t)->Ok (K (X.exit 4,R',U')) G):
 Ok (dN (ge (da bf) R U) K) G:=by
 refine bz n (by omega) (λi Q U=>Q 0=.slice (some ⟨B,0,none⟩) n c/\Q 1=.af (n:Int)/\Q 2=fv/\Q 6=.af (s:Int)/\∃q:Nat,i<=q*(2*s)/\q*(2*s)<=n/\Q 7=.af ((q*(2*s):Nat):Int)/\Q 8=.af ((q*(2*s)+2*s:Nat):Int)/\∃g,iW V B n g U/\Kp (2*s) n f g/\kR 0 n f g/\(∀p,p<q->oF k g (p*(2*s)) (p*(2*s)+2*s))/\∀t,q*(2*s)<=t->g t=f t)
  (λr=>r.1=.exit 4/\r.2.1 0=.slice (some ⟨B,0,none⟩) n c/\r.2.1 1=.af (n:Int)/\r.2.1 2=fv/\r.2.1 6=.af (s:Int)/\∃q:Nat,q*(2*s)<=n/\n<q*(2*s)+2*s/\r.2.1 7=.af ((q*(2*s):Nat):Int)/\∃g,iW V B n g r.2.2/\Kp (2*s) n f g/\kR 0 n f g/\(∀p,p<q->oF k g (p*(2*s)) (p*(2*s)+2*s))/\∀t,q*(2*s)<=t->g t=f t)
  ⟨q0,q1,q2,q6,0,by omega,by omega,by rw[sW];exact q7,by rw[sW,aN];exact q8,f,hW,.refl _ _ _,.refl,λp hp=>by omega,λt _=>rfl⟩ ?_ ?_ ?_
 ·rintro i Q U hi ⟨z0,z1,z2,z6,q,y1,y2,z7,z8,g,u,kp,p,so,l⟩;unfold da;by_cases e:q*(2*s)+2*s<=n
  ·have t1:decide (((q*(2*s)+2*s:Nat):Int)<=(n:Int))=true:=dj;have e2:q*(2*s)=2*q*s:=by rw[Nat.mul_comm 2 q,Nat.mul_assoc]
   have ta:=λt c d W'=>uh (a:=q*(2*s)) (b:=s) (by omega) t c d W'
   have tm:∀t c d W',bs Tryz.prog .mul t c d (.af 2) (.af (s:Int)) W'=some (.af ((2*s:Nat):Int),W'):=λt c d W'=>aeo (a:=2) (b:=s) (by omega) t c d W'
   have tb:=λt c d W'=>uh (a:=q*(2*s)+2*s) (b:=2*s) (by omega) t c d W'
   have two:Fo k g (q*(2*s)) (q*(2*s)+s) (q*(2*s)+2*s):=by have:=Fo.of (q:=q) (b:=2*q*s+2*s) hb hs (by omega) (by omega) (by omega);rw[<-e2]at this;exact this.FM (by omega) (by omega) λt x y=>l t x
   obtain⟨U1,g1,f1,f2,f3,f4⟩:=uJ (c:=c) hn hc (2*s+1) (q*(2*s)) (q*(2*s)+s) (q*(2*s)+2*s) g U (by omega) (by omega) (by omega) e u (p.m8 (aM _) hD) two;simp only[SX,z0,z1,z2,z6,z7,z8,t1,ta,f1,tm,tb,ai];refine .inl ⟨ao,z0,z1,z2,z6,q+1,by rw[gZ,iI];omega,by rw[gZ,iI];omega,by rw[gZ,iI];rfl,by rw[gZ,iI];rfl,g1,f2,kp.trans (f3.kp (aM _) e),p.trans (f3.mono (mP _) e),λr hr=>?_,λt ht=>?_⟩
   ·by_cases c:r=q
    ·rw[c];exact f4
    ·have:=lU (2*s) (show r+1<=q by omega);rw[gZ,iI]at this;exact(so r (by omega)).FM λt x y=>f3.out (by omega)
   ·rw[gZ,iI]at ht;rw[f3.out (by omega)];exact l t (by omega)
  ·have t1:decide (((q*(2*s)+2*s:Nat):Int)<=(n:Int))=false:=cN;simp only[SX,z1,z8,t1,ai];exact .inr ⟨by simp,ao,z0,z1,z2,z6,q,y2,by omega,z7,g,u,kp,p,so,l⟩
 ·rintro Q U ⟨z0,z1,z2,z6,q,y1,y2,z7,z8,g,u,kp,p,so,l⟩;unfold da;have t1:decide (((q*(2*s)+2*s:Nat):Int)<=(n:Int))=false:=cN;simp only[SX,z1,z8,t1,ai];exact⟨by simp,ao,z0,z1,z2,z6,q,y2,by omega,z7,g,u,kp,p,so,l⟩
 ·rintro⟨e,Q,U⟩ ⟨rfl,z0,z1,z2,z6,q,y1,y2,z7,g,u,kp,p,so,l⟩;exact hk Q U q g z0 z1 z2 z6 z7 y1 y2 u kp p so l
end
def Sep.dbl{s n:Nat}{f:Nat->Int}(h:Sep s n f):Sep (2*s) n f:=λq i j h1 h2 h3=>by
 have e:q*(2*s)=2*q*s:=by rw[Nat.mul_comm 2 q,Nat.mul_assoc]
 exact h (2*q) i j (by omega) (by omega) h3
section
variable {V U W:AW} {B n c:Nat} {f g:Nat->Int} {fv:ad} {k:Int->Int} {D:Int->Prop}
def Qz(hn:n<=10000)(hc:Cz V B n fv k D)(hD:∀t,t<n->D (f t))(hf:∀i j,i<j->j<n->f i<f j)(hW:iW V B n f W):∃U g,bf (.func (.func 198) #[] #[]) [.slice (some ⟨B,0,none⟩) n c,.af (n:Int),fv] W=some (.tuple #[],U)/\iW V B n g U/\kR 0 n f g/\oF k g 0 n:=by
 refine D3 (Q:=λg=>kR 0 n f g/\oF k g 0 n) ?_ hW jc;unfold gj;refine TQ (c:=c) hn hc hD hf hW ?_ ?_ ?_ ?_ ?_ ?_ λR' U1 q g r0 r1 r2 r6 r7 y1 y2 u kp p s l=>?_
 ·rfl
 ·rfl
 ·rfl
 ·rfl
 ·rfl
 ·rfl
 obtain⟨U2,g2,e1,e2,e3,e4⟩:=yr (c:=c) (a:=q*20) (b:=n) hn hc (p.m8 (aM _) hD) u (by omega) (aM _) (λi j x1 x2 x3=>by rw[l i x1,l j (by omega)];exact hf i j x2 x3);simp only[SX,r0,r1,r2,r7,e1];have hb:Blk k 20 n g2:=λr=>by
  by_cases c1:r<q
  ·have:=(s r c1).FM (g:=g2) λt x y=>e3.out (by omega)
   exact this.sub (aM _) (by omega)
  ·by_cases c2:r=q
   ·rw[c2];exact e4.sub (aM _) (by omega)
   ·exactλi j x1 x2 x3=>by omega
 have hs:Sep 20 n g2:=Sep.keep (λq i j h1 h2 h3=>hf i j (by omega) h3) (kp.trans (e3.kp (by omega) (aM _)));refine bz n (by omega) (λi Q U=>Q 0=.slice (some ⟨B,0,none⟩) n c/\Q 1=.af (n:Int)/\Q 2=fv/\∃s:Nat,i<s/\s<=20000/\Q 6=.af (s:Int)/\∃g,iW V B n g U/\kR 0 n f g/\Blk k s n g/\Sep s n g)
  (λr=>r.1=.exit 2/\∃g,iW V B n g r.2.2/\kR 0 n f g/\oF k g 0 n)
  ⟨r0,r1,r2,20,by omega,by omega,r6,g2,e2,p.trans (e3.mono (mP _) (aM _)),hb,hs⟩ ?_ ?_ ?_
 ·rintro i Q U hi ⟨z0,z1,z2,s,y1,y2,z6,g,u,p,hb,hs⟩;unfold dH;by_cases lt:s<n
  ·have t1:decide ((s:Int)<(n:Int))=true:=dj;have tm:∀t c d W',bs Tryz.prog .mul t c d (.af 2) (.af (s:Int)) W'=some (.af ((2*s:Nat):Int),W'):=λt c d W'=>aeo (a:=2) (b:=s) (by omega) t c d W'
   have tm2:∀t c d W',bs Tryz.prog .mul t c d (.af (s:Int)) (.af 2) W'=some (.af ((s*2:Nat):Int),W'):=λt c d W'=>aeo (a:=s) (b:=2) (by omega) t c d W'
   simp only[SX,z1,z6,t1,tm];refine VS (s:=s) (c:=c) (f:=g) hn hc (p.m8 (aM _) hD) hb hs (by omega) lt u ?_ ?_ ?_ ?_ ?_ ?_ λR'' U' q g' w0 w1 w2 w6 w7 x1 x2 u' kp' p' so l'=>?_
   ·exact z0
   ·exact z1
   ·exact z2
   ·exact z6
   ·rfl
   ·rfl
   have ta:=λt c d W'=>uh (a:=q*(2*s)) (b:=s) (by omega) t c d W'
   have e2:q*(2*s)=2*q*s:=by rw[Nat.mul_comm 2 q,Nat.mul_assoc]
   have pE:∀g3 U3,iW V B n g3 U3->kR (q*(2*s)) n g' g3->oF k g3 (q*(2*s)) n->∃g,iW V B n g U3/\kR 0 n f g/\Blk k (s*2) n g/\Sep (s*2) n g:=λg3 U3 u3 p3 s3=>by
    refine⟨g3,u3,(p.trans p').trans (p3.mono (mP _) (aM _)),?_,?_⟩
    ·rw[Nat.mul_comm s 2];intro r;by_cases c1:r<q
     ·have h:=lU (2*s) (show r+1<=q by omega);rw[gZ,iI]at h;have:=(so r c1).FM (g:=g3) λt x y=>p3.out (by omega)
      exact this.sub (aM _) (by omega)
     ·by_cases c2:r=q
      ·rw[c2];exact s3.sub (aM _) (by omega)
      ·have h:=lU (2*s) (show q+1<=r by omega);rw[gZ,iI]at h;exactλi j x1 x2 x3=>by omega
    ·rw[Nat.mul_comm s 2];exact(hs.dbl.keep kp').keep (p3.kp (by omega) (aM _))
   by_cases c1:q*(2*s)+s<n
   ·have t2:decide (((q*(2*s)+s:Nat):Int)<(n:Int))=true:=dj;have two:Fo k g' (q*(2*s)) (q*(2*s)+s) n:=by have:=Fo.of (q:=q) (b:=n) hb hs (by omega) (aM _) (by omega);rw[<-e2]at this;exact this.FM (by omega) (by omega) λt x y=>l' t x
    obtain⟨U3,g3,f1,f2,f3,f4⟩:=uJ (c:=c) hn hc (n+1) (q*(2*s)) (q*(2*s)+s) n g' U' (by omega) (by omega) c1 (aM _) u' ((p.trans p').m8 (aM _) hD) two;simp only[SX,w0,w1,w2,w6,w7,ta,t2,f1,tm2,ai];exact .inl ⟨ao,w0,w1,w2,s*2,by omega,by omega,rfl,pE g3 U3 f2 f3 f4⟩
   ·have t2:decide (((q*(2*s)+s:Nat):Int)<(n:Int))=false:=cN;simp only[SX,w0,w1,w2,w6,w7,ta,t2,tm2,ai];refine .inl ⟨ao,w0,w1,w2,s*2,by omega,by omega,rfl,pE g' U' u' .refl ?_⟩;have:=hb (2*q);rw[<-e2]at this;exact(this.FM (g:=g') λt x y=>l' t x).sub (aM _) (by omega)
  ·have t1:decide ((s:Int)<(n:Int))=false:=cN;simp only[SX,z1,z6,t1,ai];refine .inr ⟨by simp,ao,g,u,p,?_⟩;have:=hb 0;rw[sW]at this;exact this.sub (aM _) (by omega)
 ·rintro Q U ⟨z0,z1,z2,s,y1,y2,z6,g,u,p,hb,hs⟩;unfold dH;have t1:decide ((s:Int)<(n:Int))=false:=cN;simp only[SX,z1,z6,t1,ai];refine⟨by simp,ao,g,u,p,?_⟩;have:=hb 0;rw[sW]at this;exact this.sub (aM _) (by omega)
 ·rintro⟨e,Q,U⟩ ⟨rfl,g,u,p,s⟩;simp only[SX,ai];exact⟨ao,g,u,p,s⟩
def F5(hn:n<=10000)(hc:Cz V B n fv k D)(hD:∀t,t<n->D (f t))(hf:∀i j,i<j->j<n->f i<f j)(hW:iW V B n f W):∃U g,bf (.func (.func 166) #[] #[]) [.slice (some ⟨B,0,none⟩) n c,fv] W=some (.tuple #[],U)/\iW V B n g U/\kR 0 n f g/\oF k g 0 n:=by
 refine D3 (Q:=λg=>kR 0 n f g/\oF k g 0 n) ?_ hW gp;unfold eU;obtain⟨U,g,e1,e2,e3,e4⟩:=Qz (c:=c) hn hc hD hf hW;have hl:∀W',aR Tryz.prog .len #[28] 3 #[false] [.slice (some ⟨B,0,none⟩) n c] W'=some (.af (n:Int),W'):=λW'=>fZ wU _ _ _
 simp only[SX,hl,e1,ai];exact⟨ao,g,e2,e3,e4⟩
end
def rm:fg:=λc a b=>cH c 199 [a] λd=>cH c 199 [b] λe=>gI d (gI e (yO [(I 0,none)]) (yO [(I (-1),none)])) (gI e (yO [(I 1,none)]) (gB (YC a b) λf=>gI f (yO [(I (-1),none)]) (gB (ac6 a b) λg=>gI g (yO [(I 1,none)]) (yO [(I 0,none)]))))
def xh{x0 x1 W r}(h:rm bf x0 x1 W=some r):OG 168 #[] [x0,x1] W r:=oM 20 h (by kernel_rfl)
def uw:iu:=λc a=>gB (Tc a a) λb=>yO [(b,none)]
def yY{x0 W r}(h:uw bf x0 W=some r):OG 199 #[] [x0] W r:=oM 6 h (by kernel_rfl)
def LN{W0 W:AW}{ob sb qb:Nat}{bq:Nat->Nat}{x x':cK}{sv:ad}{o:jS}{s:Int}(h:dT W0 W ob sb qb bq x sv o s){F:Nat}{t:Option (ad×AW)}{r:oE}(Mi:∀{r},t=some r->bf (.func (.func F) #[] #[]) [bi ob] W=some (gc W r))
 (ht:Ok t λq=>q.1=lC r/\dT W0 q.2 ob sb qb bq x' sv o s/\W.next<=q.2.next/\∀b,ob<b->b<W.next->q.2.get b=W.get b):jr W0 W ob sb qb bq sv o s F x' r:=by
 obtain⟨⟨v,V⟩,k1,rfl,k2⟩:=ht;obtain⟨V2,e',q1,q2⟩:=wM (v:=lC r) (Q:=λV=>dT W0 V ob sb qb bq x' sv o s/\W.next<=V.next/\∀b,ob<b->b<W.next->V.get b=W.get b) k2 λhp=>⟨h.back k2.1 hp,aM _,λ_ _ _=>rfl⟩
 exact⟨V2,bq,by rw[Mi k1,e'],q1,q2.1,q2.2,λ_=>.inl rfl⟩
def HY(W:AW):dX Tryz.prog 50 [] W=some (lC kI,W):=aL (by kernel_rfl) rfl
section
variable {W0 W V:AW} {ob sb qb:Nat} {bq:Nat->Nat} {x x':cK} {sv:ad} {o:jS} {s:Int}
def TC(h:dT W0 W ob sb qb bq x sv o s)(hx:S2 W qb bq x.qs)(ut:sb<ob/\qb<ob/\∀k,bq k<ob){k:Nat}(hk:k<x.qs.length)(Qq:o.sc=(k:Int))(hl:(js x k).length<=1000):
 jr W0 W ob sb qb bq sv o s 134 (vI x k o.ow) (I6 x k o.ow):=by
 have e0:x.qs[k]=js x k:=by simp[js,bS hk]
 obtain⟨V,al,aS,n2,g2⟩:=j7 W;have h1:=h.mono aS;obtain⟨qv,q1,q2,q3,q4⟩:=hx.mono h.hi.2.2 aS;obtain⟨u,u1,u2⟩:=q3 _ hk;rw[e0]at u2;have lu:bG (.pointer (some ⟨qb,k,none⟩)) V=some (u,V):=aZ (az q1) u1;have hix:=JE u2.rd (by omega) o.ow;rw[show oi (λy=>decide (o.ow=y)) (js x k)=RK x k o.ow from rfl]at hix;by_cases c:RK x k o.ow<0
 ·have e2:vI x k o.ow=x:=aq c;have e3:I6 x k o.ow=rK 4:=aq c;rw[e2,e3];refine jW h ⟨ut.1,ut.2.1⟩ mr ?_;unfold ku;obtain⟨p1,p2⟩:=pJ g2 (rK 4);have d:=be c;simp only[SX,al,aJ,aN,Nat.reduceAdd,h1.l6,h1.l11,Qq,ixQ hk,lu,h1.l8,hix,d,oR,p1,p2,ai];exact⟨ao,eV h h1 (.of_le aS) (aM _) _⟩
 ·obtain⟨i,hi,ei⟩:=YU c;rw[show oi (λy=>decide (o.ow=y)) (js x k)=RK x k o.ow from rfl]at ei;have e2:vI x k o.ow={x with qs:=x.qs.set k (RR (js x k) i)}:=(ap c).trans (by rw[ei];rfl);have e3:I6 x k o.ow=kI:=ap c;rw[e2,e3];refine LN h mr ?_;have ee:js x k≠[]:=λe=>by rw[e]at hi;cases hi
  rcases u2 with⟨hn,-⟩|⟨-,hb,rfl,hc⟩
  ·exact absurd hn ee
  have Nq:=h.hi;have hbq:=h.nq k;have Yu:=Q9 (W:=V) (args:=[.slice (some ⟨bq k,0,none⟩) (js x k).length (dY+1),.af (i:Nat),.af ((i:Int)+1)]) ⟨bq k,js x k,i,hi,rfl,hc,rfl⟩;have t1:=λW'=>bJ W' i 1
  have d:=bm c;rw[ei]at d hix;obtain⟨V5,Mm⟩:∃V5,V5=V.put (bq k) (.cells ((pc (js x k) i).map (Value.int .u32))):=⟨_,rfl⟩;rw[<-Mm]at Yu;have vo:∀c,c≠bq k->V5.get c=V.get c:=λc hc=>by rw[Mm];exact AW.ay _ _ (aV hc)
  have vb:V5.get (bq k)=some (.cells ((pc (js x k) i).map (Value.int .u32))):=by rw[Mm];exact AW.aW _ _ _
  have vn:V5.next=V.next:=by rw[Mm];rfl
  clear Mm;have QL:k<qv.length:=by omega
  have sq:gv 1 (.pointer (some ⟨qb,k,none⟩)) (.slice (some ⟨bq k,0,none⟩) ((js x k).length-1) (dY+1)) V5=some (ak,V5.put qb (.cells (qv.set k (.slice (some ⟨bq k,0,none⟩) ((js x k).length-1) (dY+1))))):=by rw[mD,dJ ((vo _ (by omega)).trans q1),bL,aq QL]
  obtain⟨U,hU⟩:∃U,U=V5.put qb (.cells (qv.set k (.slice (some ⟨bq k,0,none⟩) ((js x k).length-1) (dY+1)))):=⟨_,rfl⟩;rw[<-hU]at sq;have uq:U.get qb=some (.cells (qv.set k (.slice (some ⟨bq k,0,none⟩) ((js x k).length-1) (dY+1)))):=by rw[hU];exact AW.aW _ _ _
  have uo:∀c,c≠qb->U.get c=V5.get c:=λc hc=>by rw[hU];exact AW.ay _ _ (aV hc)
  have un:U.next=V.next:=by rw[hU,AW.bh,vn]
  clear hU;have g5:U.get W.next=some (.cells (oH kI)):=((uo _ (by omega)).trans (vo _ (by omega))).trans g2;obtain⟨p1,p2⟩:=pJ g5 kI;unfold ku;simp only[SX,al,aJ,aN,Nat.reduceAdd,h1.l6,h1.l11,Qq,ixQ hk,lu,h1.l8,hix,d,t1,Yu,sq,HY,p1,p2,ai];have gW:∀b,b<W.next->b≠qb->b≠bq k->(U.put W.next (.cells (oH kI))).get b=W.get b:=λb hb h2 h3=>(AW.ay _ _ (by omega)).trans ((uo _ h2).trans ((vo b h3).trans (aS.get b hb)))
  refine⟨ao,{le:=⟨by rw[AW.bh];have:=h.le.next;omega,λb hb=>(gW b (eE hb h.le.next) (by have:=h.lo;omega) (by omega)).trans (h.le.get b hb)⟩,lo:=h.lo,hi:=by rw[AW.bh];omega,ne:=h.ne,nq:=λj=>?_,sec:=h.sec,go:=?_,gs:=?_,gq:=?_},by rw[AW.bh];omega,λb b1 b2=>gW b b2 (by omega) (by have:=ut.2.2 k;omega)⟩
  ·rw[AW.bh];have:=h.nq j;omega
  ·rw[gW _ Nq.1 h.ne.2.1 (aV hbq.2.2.1)];simp only[sI];exact h.go
  ·rw[gW _ Nq.2.1 h.ne.2.2 (aV hbq.2.2.2.1)];exact h.gs
  ·refine⟨_,(AW.ay _ _ (by omega)).trans uq,by simp[q2],λj hj=>?_⟩;have hj2:j<x.qs.length:=by simpa using hj
   by_cases Sw:k=j
   ·subst Sw;refine⟨_,vd QL,?_⟩;simp only[CP];have eG:(RR (js x k) i).length=(js x k).length-1:=by unfold RR;rw[cT,fu,qA];omega
    refine .inr ⟨0,_,by rw[eG],((AW.ay _ _ (by omega)).trans (uo _ (by omega))).trans vb,?_⟩;rw[jF,<-yH];congr 1;have:pc (js x k) i=RR (js x k) i++[0]:=rfl;rw[this,sV]
   ·obtain⟨w,w1,w2⟩:=q3 j hj2;refine⟨w,by rw[xP Sw];exact w1,?_⟩;simp only[Ib Sw];by_cases hem:x.qs[j]=[]
    ·rw[hem]at w2|-;rcases w2 with w2|⟨w3,-⟩
     ·exact .inl w2
     ·exact absurd rfl w3
    ·refine w2.qa.keep ?_;have hj3:=h.nq j;have e5:=gW (bq j) (by omega) hj3.2.2.2.2 (q4 j k hj2 hk (aV Sw) hem (by rw[e0];exact ee));exact e5.trans (aS.get _ (by omega)).symm
end
def Tq(a b:Int):Int:=if a<b then -1 else if b<a then 1 else 0
def DS(a:Int)(W:AW):bf (.func (.func 199) #[] #[]) [.af a] W=some (.bool false,W):=by refine aX rfl ?_ yY;unfold uw;have d:decide (a=a)=true:=be rfl;simp(maxDischargeDepth:=9) only[SX,MX,HX]
def Us(a b:Int)(W:AW):bf (.func (.func 168) #[] #[]) [.af a,.af b] W=some (.af (Tq a b),W):=by
 refine aX rfl ?_ xh;unfold rm Tq;by_cases c:a<b
 ·have d:=be c;simp(maxDischargeDepth:=9) only[SX,MX,HX,DS,d,aq c]
 ·have d:=bm c;by_cases c2:b<a
  ·have d2:=be c2;simp(maxDischargeDepth:=9) only[SX,MX,HX,DS,d,d2,ap c,aq c2]
  ·have d2:=bm c2;simp(maxDischargeDepth:=9) only[SX,MX,HX,DS,d,d2,ap c,ap c2]
def Uv(a b:Int):Tq a b<0<->a<b:=by
 unfold Tq;split
 ·omega
 ·split<;>omega
def HR{o t:Option (ad×AW)}{W:AW}(h:Ok t λr=>r.1=.tuple #[]/\r.2=W)(Mi:∀{r},t=some r->o=some (gc W r)):o=some (.tuple #[],W):=by obtain⟨⟨v,V⟩,h1,rfl,rfl⟩:=h;rw[Mi h1,pC rfl]
def Yd(v fv:ad)(W:AW):bf (.func (.func 213) #[] #[]) [v,.af 0,.af 0,fv] W=some (.tuple #[],W):=by
 refine HR ?_ dE;unfold cS;have t1:=λW'=>bJ W' 0 1
 simp only[SX,t1];refine bz 0 (by omega) (λk R V=>V=W/\R 8=.af 1/\R 2=.af 0) (λr=>r.1=.exit 0/\r.2.2=W) ⟨rfl,rfl,rfl⟩ (by omega) ?_ ?_
 ·rintro R V ⟨rfl,r8,r2⟩;unfold bY;simp only[SX,r8,r2,Int.reduceLT,ai];exact⟨by simp,ao,ao⟩
 ·rintro⟨e,R,V⟩ ⟨rfl,rfl⟩;simp only[SX,ai];exact⟨ao,ao⟩
def My(v fv:ad)(W:AW):bf (.func (.func 198) #[] #[]) [v,.af 0,fv] W=some (.tuple #[],W):=by
 refine HR ?_ jc;unfold gj;refine bz 0 (by omega) (λk R V=>V=W/\R 0=v/\R 1=.af 0/\R 2=fv/\R 6=.af 20/\R 7=.af 0/\R 8=.af 20) (λr=>r.1=.exit 0/\r.2.2=W/\r.2.1 0=v/\r.2.1 1=.af 0/\r.2.1 2=fv/\r.2.1 6=.af 20/\r.2.1 7=.af 0) ⟨rfl,rfl,rfl,rfl,rfl,rfl,rfl⟩ (by omega) ?_ ?_
 ·rintro R V ⟨rfl,r0,r1,r2,r6,r7,r8⟩;unfold cO;simp only[SX,r8,r1,Int.reduceLE,ai];exact⟨by simp,ao,ao,r0,r1,r2,r6,r7⟩
 ·rintro⟨e,R,V⟩ ⟨rfl,rfl,r0,r1,r2,r6,r7⟩;simp only at r0 r1 r2 r6 r7;simp only[SX,r0,r1,r2,r7,Yd];refine bz 0 (by omega) (λk R V'=>V'=V/\R 6=.af 20/\R 1=.af 0) (λr=>r.1=.exit 2/\r.2.2=V) ⟨rfl,r6,r1⟩ (by omega) ?_ ?_
  ·rintro R V ⟨rfl,r6,r1⟩;unfold dH;simp only[SX,r6,r1,Int.reduceLT,ai];exact⟨by simp,ao,ao⟩
  ·rintro⟨e,R,V⟩ ⟨rfl,rfl⟩;simp only[SX,ai];exact⟨ao,ao⟩
def Th(fv:ad)(W:AW):bf (.func (.func 166) #[] #[]) [.slice none 0 0,fv] W=some (.tuple #[],W):=by
 refine HR ?_ gp;unfold eU;have hl:∀W',aR Tryz.prog .len #[28] 3 #[false] [.slice none 0 0] W'=some (.af 0,W'):=λW'=>fZ wU _ _ _
 simp only[SX,hl,My,ai];exact⟨ao,ao⟩
structure TL where
 ops:List gn
 Fy:List Int
 busy:Int->Option Int
 sP:Nat
def TL.init:TL:=⟨[],[],λ_=>none,0⟩
def rG(ops:List gn)(j:Nat)(k:Int)(r:oE):List gn:=match ops[j]? with
 |some o=>ops.set j {o with to:=k,rp:=r}
 |none=>ops
open Classical in
def dR(s:TL)(x:fF):Int:=
 if x.th<1\/64<x.th then 7 else
 if x.ret=true then(if s.busy x.th=some x.id/\x.op=op0 then 0 else 6)else
 if(s.busy x.th).isSome=true\/x.id≠(s.ops.length:Int)+1\/x.rp≠kI\/Gq x.op≠0 then 6 else 0
def gz(s:TL)(k:Nat)(x:fF):TL:=
 if x.ret=true then⟨rG s.ops (x.id-1).toNat k x.rp,s.Fy++[((s.sP-1:Nat):Int)],λt=>if t=x.th then none else s.busy t,s.sP-1⟩
 else⟨s.ops++[⟨x.id,x.th,k,-1,x.op,kI⟩],s.Fy++[((s.sP+1:Nat):Int)],λt=>if t=x.th then some x.id else s.busy t,s.sP+1⟩
inductive qH (l:List fF):Nat->TL->Prop
 |zero:qH l 0 TL.init
 |succ {k:Nat} {s:TL} {x:fF}:qH l k s->l[k]? =some x->dR s x=0->qH l (k+1) (gz s k x)
structure Inv (l:List fF) (k:Nat) (s:TL):Prop where
 ids:∀(j:Nat) (o:gn),s.ops[j]? =some o->o.id=(j:Int)+1/\∃(i:Nat) (x:fF),i<k/\l[i]? =some x/\o.fr=(i:Int)/\x.ret=false/\x.id=(j:Int)+1/\x.th=o.th/\x.op=o.op
 cal:∀(i:Nat) (x:fF),i<k->l[i]? =some x->x.ret=false->∃(j:Nat) (o:gn),s.ops[j]? =some o/\x.id=(j:Int)+1/\o.fr=(i:Int)
 ret:∀(i:Nat) (x:fF),i<k->l[i]? =some x->x.ret=true->∃(j:Nat) (o:gn),s.ops[j]? =some o/\x.id=(j:Int)+1/\o.to=(i:Int)/\o.rp=x.rp
 tos:∀(j:Nat) (o:gn),s.ops[j]? =some o->(o.to= -1/\o.rp=kI)\/∃(i:Nat) (x:fF),i<k/\l[i]? =some x/\o.to=(i:Int)/\x.ret=true/\x.id=(j:Int)+1
 bsy:∀t id:Int,s.busy t=some id<->∃(j:Nat) (o:gn),s.ops[j]? =some o/\id=(j:Int)+1/\o.th=t/\o.to= -1
 cnc:((l.take k).filter λe=> !e.ret).length=s.ops.length
 opl:s.Fy.length=k
 opk:s.ops.length<=k
def fB{α:Type}{l:List α}{a b:α}{j:Nat}:(l++[a])[j]? =some b<->l[j]? =some b\/(j=l.length/\b=a):=by
 rw[rX];by_cases h:j<l.length
 ·rw[aq h];constructor
  ·exact .inl
  ·rintro(h1|⟨h1,-⟩)
   ·exact h1
   ·omega
 ·rw[ap h,iE (l:=l) (by omega)];by_cases h2:j=l.length
  ·subst h2;rw[yl];simp[eq_comm]
  ·rw[iE (by simp;omega)];simp[h2]
def Gs{l:List fF}{k:Nat}{x:fF}(h:l[k]? =some x):l.take (k+1)=l.take k++[x]:=by obtain⟨h1,rfl⟩:=cn.1 h;exact lW h1
def Hd{s:TL}{x:fF}(hr:x.ret=true)(h:dR s x=0):s.busy x.th=some x.id/\x.op=op0/\1<=x.th/\x.th<=64:=by
 unfold dR at h;split at h
 ·omega
 ·try rw[aq hr]at h
  split at h
  ·rename_i h1 h2;exact⟨h2.1,h2.2,by omega,by omega⟩
  ·omega
def Eh{s:TL}{x:fF}(hr:x.ret=false)(h:dR s x=0):s.busy x.th=none/\x.id=(s.ops.length:Int)+1/\x.rp=kI/\Gq x.op=0/\1<=x.th/\x.th<=64:=by
 unfold dR at h;split at h
 ·omega
 ·try rw[ap (by rw[hr];simp)]at h
  split at h
  ·omega
  ·rename_i h1 h2;simp only[not_or,Classical.not_not]at h2;refine⟨?_,h2.2.1,h2.2.2.1,h2.2.2.2,by omega,by omega⟩;cases hb:s.busy x.th with
   |none=>rfl
   |some v=>rw[hb]at h2;simp at h2
def qH.inv{l:List fF}{k:Nat}{s:TL}(h:qH l k s):Inv l k s:=by
 induction h with
 |zero=>exact⟨by simp[TL.init],λi x hi=>by omega,λi x hi=>by omega,by simp[TL.init],by simp[TL.init],by simp[TL.init],rfl,by simp[TL.init]⟩
 | @succ k s x jC hx he ih=>
  have kW:=(cn.1 hx).1;cases hr:x.ret with
  |true=>
   obtain⟨hb,qQ,-,-⟩:=Hd hr he;obtain⟨j,o0,g0,gid,gth,gto⟩:=(ih.bsy _ _).1 hb;have ej:(x.id-1).toNat=j:=by omega
   have hj:j<s.ops.length:=(cn.1 g0).1;have hs:gz s k x=⟨s.ops.set j {o0 with to:=(k:Int),rp:=x.rp},s.Fy++[((s.sP-1:Nat):Int)],λt=>if t=x.th then none else s.busy t,s.sP-1⟩:=by unfold gz rG;rw[aq hr,ej,g0]
   rw[hs];have di:∀(j':Nat) (o:gn),(s.ops.set j {o0 with to:=(k:Int),rp:=x.rp})[j']? =some o<->(j'=j/\o={o0 with to:=(k:Int),rp:=x.rp})\/(j'≠j/\s.ops[j']? =some o):=λj' o=>by
    rw[n8];by_cases e:j=j'
    ·subst e;rw[aq rfl,aq hj];simp[eq_comm]
    ·rw[ap e];simp[aV e]
   refine⟨λj' o ho=>?_,λi y hi hy SH=>?_,λi y hi hy SH=>?_,λj' o ho=>?_,λt id=>?_,?_,by simp[ih.opl],by simp;have:=ih.opk;omega⟩
   ·rcases(di j' o).1 ho with⟨rfl,rfl⟩|⟨ee,ho⟩
    ·obtain⟨h1,i,y,h2,h3⟩:=ih.ids _ _ g0;exact⟨h1,i,y,by omega,h3⟩
    ·obtain⟨h1,i,y,h2,h3⟩:=ih.ids _ _ ho;exact⟨h1,i,y,by omega,h3⟩
   ·by_cases ei:i=k
    ·subst ei;rw[hx]at hy;injection hy with hy;subst hy;rw[hr]at SH;cases SH
    ·obtain⟨j',o,h1,h2,h3⟩:=ih.cal i y (by omega) hy SH;by_cases e:j'=j
     ·subst e;rw[g0]at h1;injection h1 with h1;subst h1;exact⟨j',_,(di _ _).2 (.inl ⟨rfl,rfl⟩),h2,h3⟩
     ·exact⟨j',o,(di _ _).2 (.inr ⟨e,h1⟩),h2,h3⟩
   ·by_cases ei:i=k
    ·subst ei;rw[hx]at hy;injection hy with hy;subst hy;exact⟨j,_,(di _ _).2 (.inl ⟨rfl,rfl⟩),gid,rfl,rfl⟩
    ·obtain⟨j',o,h1,h2,h3,h4⟩:=ih.ret i y (by omega) hy SH;by_cases e:j'=j
     ·subst e;rw[g0]at h1;injection h1 with h1;subst h1;omega
     ·exact⟨j',o,(di _ _).2 (.inr ⟨e,h1⟩),h2,h3,h4⟩
   ·rcases(di j' o).1 ho with⟨rfl,rfl⟩|⟨ee,ho⟩
    ·exact .inr ⟨k,x,by omega,hx,rfl,hr,gid⟩
    ·rcases ih.tos _ _ ho with h|⟨i,y,h1,h2⟩
     ·exact .inl h
     ·exact .inr ⟨i,y,by omega,h2⟩
   ·simp only;constructor
    ·intro h;split at h
     ·cases h
     ·rename_i ee;obtain⟨j',o,h1,h2,h3,h4⟩:=(ih.bsy t id).1 h;have e:j'≠j:=λe=>by subst e;rw[g0]at h1;injection h1 with h1;subst h1;exact ee (h3.symm.trans gth)
      exact⟨j',o,(di _ _).2 (.inr ⟨e,h1⟩),h2,h3,h4⟩
    ·rintro⟨j',o,h1,h2,h3,h4⟩;rcases(di j' o).1 h1 with⟨rfl,rfl⟩|⟨ee,ho⟩
     ·simp only at h4;omega
     ·have h5:=(ih.bsy t id).2 ⟨j',o,ho,h2,h3,h4⟩;by_cases et:t=x.th
      ·subst et;rw[hb]at h5;injection h5 with h5;omega
      ·rw[ap et];exact h5
   ·rw[Gs hx,Av];simp[hr,ih.cnc]
  |false=>
   obtain⟨hb,OW,hrp,qQ,-,-⟩:=Eh hr he;have hs:gz s k x=⟨s.ops++[⟨x.id,x.th,(k:Int),-1,x.op,kI⟩],s.Fy++[((s.sP+1:Nat):Int)],λt=>if t=x.th then some x.id else s.busy t,s.sP+1⟩:=by unfold gz;rw[ap (by rw[hr];simp)]
   rw[hs];refine⟨λj' o ho=>?_,λi y hi hy SH=>?_,λi y hi hy SH=>?_,λj' o ho=>?_,λt id=>?_,?_,by simp[ih.opl],by simp;have:=ih.opk;omega⟩
   ·rcases fB.1 ho with ho|⟨rfl,rfl⟩
    ·obtain⟨h1,i,y,h2,h3⟩:=ih.ids _ _ ho;exact⟨h1,i,y,by omega,h3⟩
    ·exact⟨OW,k,x,by omega,hx,rfl,hr,OW,rfl,rfl⟩
   ·by_cases ei:i=k
    ·subst ei;rw[hx]at hy;injection hy with hy;subst hy;exact⟨_,_,fB.2 (.inr ⟨rfl,rfl⟩),OW,rfl⟩
    ·obtain⟨j',o,h1,h2,h3⟩:=ih.cal i y (by omega) hy SH;exact⟨j',o,fB.2 (.inl h1),h2,h3⟩
   ·by_cases ei:i=k
    ·subst ei;rw[hx]at hy;injection hy with hy;subst hy;rw[hr]at SH;cases SH
    ·obtain⟨j',o,h1,h2,h3,h4⟩:=ih.ret i y (by omega) hy SH;exact⟨j',o,fB.2 (.inl h1),h2,h3,h4⟩
   ·rcases fB.1 ho with ho|⟨rfl,rfl⟩
    ·rcases ih.tos _ _ ho with h|⟨i,y,h1,h2⟩
     ·exact .inl h
     ·exact .inr ⟨i,y,by omega,h2⟩
    ·exact .inl ⟨rfl,rfl⟩
   ·simp only;constructor
    ·intro h;split at h
     ·rename_i et;injection h with h;exact⟨_,_,fB.2 (.inr ⟨rfl,rfl⟩),by omega,et.symm,rfl⟩
     ·obtain⟨j',o,h1,h2,h3,h4⟩:=(ih.bsy t id).1 h;exact⟨j',o,fB.2 (.inl h1),h2,h3,h4⟩
    ·rintro⟨j',o,h1,h2,h3,h4⟩;rcases fB.1 h1 with ho|⟨rfl,rfl⟩
     ·have h5:=(ih.bsy t id).2 ⟨j',o,ho,h2,h3,h4⟩;by_cases et:t=x.th
      ·subst et;rw[hb]at h5;cases h5
      ·rw[ap et];exact h5
     ·simp only at h3;rw[aq h3.symm];congr 1;omega
   ·rw[Gs hx,Av];simp[hr,ih.cnc]
open Classical in
def qH.prev{l:List fF}{n:Nat}{s':TL}(h:qH l n s'){k:Nat}(e:n=k+1):∃(s:TL) (x:fF),qH l k s/\l[k]? =some x/\dR s x=0/\s'=gz s k x:=by
 cases h with
 |zero=>omega
 | @succ m s x h1 h2 h3=>
  have:m=k:=by omega
  subst this;exact⟨s,x,h1,h2,h3,rfl⟩
def qH.Fh{l:List fF}{k:Nat}{s:TL}(h:qH l k s):∀{s':TL},qH l k s'->s'=s:=by
 induction h with
 |zero=>intro s' h';cases h';rfl
 | @succ k s x h1 h2 h3 ih=>intro s' h';obtain⟨s2,x2,a1,a2,a3,rfl⟩:=h'.prev rfl;rw[h2]at a2;injection a2 with a2;subst a2;rw[ih a1]
def qH.pre{l:List fF}{k:Nat}{s:TL}(h:qH l k s):∀{m:Nat},m<=k->∃s',qH l m s':=by
 induction h with
 |zero=>intro m hm;have:m=0:=by omega
        subst this;exact⟨_,.zero⟩
 | @succ k s x h1 h2 h3 ih=>
  intro m hm;by_cases e:m=k+1
  ·subst e;exact⟨_,.succ h1 h2 h3⟩
  ·exact ih (by omega)
def qH.stop{l:List fF}{k:Nat}{s:TL}{x:fF}(h:qH l k s)(hx:l[k]? =some x)(he:dR s x≠0){m:Nat}{s':TL}(h':qH l m s'):m<=k:=by
 by_cases hm:m<=k
 ·exact hm
 ·obtain⟨s2,h2⟩:=h'.pre (m:=k+1) (by omega);obtain⟨s3,x3,a1,a2,a3,-⟩:=h2.prev rfl;rw[hx]at a2;injection a2 with a2;subst a2;rw[h.Fh a1]at a3;exact absurd a3 he
inductive HV (e0:Int) (l:List fF):Int->Int->Prop
 |Hh:e0≠0->HV e0 l (-1) e0
 |len:e0=0->400<l.length->HV e0 l (-1) 3
 |bad {k:Nat} {s:TL} {x:fF}:e0=0->l.length<=400->qH l k s->l[k]? =some x->dR s x≠0->HV e0 l (k:Int) (dR s x)
 |ok {s:TL}:e0=0->l.length<=400->qH l l.length s->HV e0 l 0 0
def HV.Fh{e0:Int}{l:List fF}{a e a' e':Int}(h:HV e0 l a e)(h':HV e0 l a' e'):a=a'/\e=e':=by
 cases h with
 |Hh h1=>cases h' with
  |Hh h2=>exact⟨rfl,rfl⟩
  |len h2 _=>exact absurd h2 h1
  |bad h2=>exact absurd h2 h1
  |ok h2=>exact absurd h2 h1
 |len h1 h2=>cases h' with
  |Hh h3=>exact absurd h1 h3
  |len=>exact⟨rfl,rfl⟩
  |bad h3 h4=>omega
  |ok h3 h4=>omega
 | @bad k s x h1 h2 h3 h4 h5=>cases h' with
  |Hh h6=>exact absurd h1 h6
  |len h6 h7=>omega
  | @bad k' s' x' h6 h7 h8 h9 FF=>
   have a1:=h3.stop h4 h5 h8;have a2:=h8.stop h9 FF h3;have:k=k':=by omega
   subst this;rw[h4]at h9;injection h9 with h9;subst h9;rw[h3.Fh h8];exact⟨rfl,rfl⟩
  |ok h6 h7 h8=>have a1:=h3.stop h4 h5 h8;have a2:=(cn.1 h4).1;omega
 | @ok s h1 h2 h3=>cases h' with
  |Hh h6=>exact absurd h1 h6
  |len h6 h7=>omega
  | @bad k' s' x' h6 h7 h8 h9 FF=>have a1:=h8.stop h9 FF h3;have a2:=(cn.1 h9).1;omega
  |ok=>exact⟨rfl,rfl⟩
def HV.pn{e0:Int}{l:List fF}{a e:Int}(h:HV e0 l a e)(he:e=0):a=0/\l.length<=400/\∃s,qH l l.length s:=by
 cases h with
 |Hh h1=>exact absurd he h1
 |len=>omega
 |bad h1 h2 h3 h4 h5=>exact absurd he h5
 |ok h1 h2 h3=>exact⟨rfl,h2,_,h3⟩
abbrev CG(v:fc)(sv ev:ad):ad:=.agg #[.af v.sh,.af v.dS,.af v.g9,sv,ev]
structure HiA (W:AW) (v:fc) (sv ev:ad) (l:List fF):Prop where
 aA:iO W sv v.aA
 small:v.aA.length<1000
 rows:∀s∈v.aA,s.rows.length<1000
 RA:RV W ev l
def HiA.mono{W W':AW}{v:fc}{sv ev:ad}{l:List fF}(h:HiA W v sv ev l)(aS:Le W W'):HiA W' v sv ev l:=⟨h.aA.mono aS,h.small,h.rows,h.RA.mono aS⟩
def ahV(v:fc)(sv ev:ad)(W:AW):nG (CG v sv ev) W=some (.pointer (some ⟨W.next,0,none⟩),W.add (.cells [.af v.sh,.af v.dS,.af v.g9,sv,ev])):=jf _
def akC:mq Tryz.prog #[78,78] 25 184=true:=by kernel_rfl
def aiw:mq Tryz.prog #[28,28] 1 8=true:=by kernel_rfl
def alN(h:gn)(W:AW):dA Tryz.prog 78 1 [(0,Eg h)] W=some (.slice (some ⟨W.next,0,none⟩) 1 1,W.add (.cells (iz h))):=aL (by kernel_rfl) rfl
def adA(a:Int)(W:AW):dA Tryz.prog 28 1 [(0,.af a)] W=some (.slice (some ⟨W.next,0,none⟩) 1 1,W.add (.cells (oY a))):=aL (by kernel_rfl) rfl
def agD(id th fr to:Int)(o:jS)(W:AW):dX Tryz.prog 77 [(0,.af id),(1,.af th),(2,.af fr),(3,.af to),(4,Jm o)] W=some (Eg ⟨id,th,fr,to,o,kI⟩,W):=aL (by kernel_rfl) rfl
abbrev PV(v:fc)(sv ev ov pv:ad):List ad:=[.af v.sh,.af v.dS,.af v.g9,sv,ev,ov,pv]
def ahz(v:fc)(sv ev:ad)(W:AW):dX Tryz.prog 80 [(0,CG v sv ev)] W=some (.agg #[.af v.sh,.af v.dS,.af v.g9,sv,ev,.slice none 0 0,.slice none 0 0],W):=aL (by kernel_rfl) rfl
def agn(W:AW):qu Tryz.prog 112 none W=some (.map (some W.next),W.add (.map [] 0)):=rfl
def We:Tryz.prog.underlying 112=some (.map 3 3):=by kernel_rfl
def ty3:Tryz.prog.underlying 3=some (.int .i64):=by kernel_rfl
def tz3:iM Tryz.prog 3=some (.af 0):=by kernel_rfl
def SL:((#[112]:Array ae)[0]?).bind Tryz.prog.underlying=some (.map 3 3):=by kernel_rfl
def KQ{P:Program}{W:AW}{r n:Nat}{m:Int->Option ad}{ts:Array ae}{k e:ae}(h:sH W r m n)(ht:(ts[0]?).bind P.underlying=some (.map k e))(ty:ae)(cf:Array Bool):aR P .len ts ty cf [.map (some r)] W=some (.af (n:Int),W):=by obtain⟨l,c,hg,hn,hl,hm⟩:=h;unfold aR;simp only[ht,hg];rw[show(uf l).length=n by unfold uf;rw[gV,hl]];rfl
def DW(r:oE):ff (lC r) (lC r)=true:=ky (by simp[OV,tT])
def Do(pre mid post vs:List ad)(p:Nat)(h:p+vs.length<=mid.length):fN (pre++(mid++post)) (pre.length+p) vs=pre++(fN mid p vs++post):=by unfold fN;rw[List.take_length_add_append,List.take_append_of_le_length (by omega),i9,List.drop_length_add_append,List.drop_append_of_le_length h];simp only[mA]
def ac3(o:gn)(k:Int):fN (iz o) 3 [.af k]=iz {o with to:=k}:=by unfold fN;rfl
def adf(o:gn)(r:oE):fN (iz o) 16 (lC r).cells.toList=iz {o with rp:=r}:=by unfold fN;rfl
def LB{ops:List gn}{j:Nat}{o:gn}(hj:ops[j]? =some o)(o':gn):(ops.set j o').flatMap iz=(ops.take j).flatMap iz++(iz o'++(ops.drop (j+1)).flatMap iz):=by obtain⟨h1,-⟩:=cn.1 hj;rw[CZ,aq h1,jg,gU]
def RO{ops:List gn}{j:Nat}{o:gn}(hj:ops[j]? =some o):ops.flatMap iz=(ops.take j).flatMap iz++(iz o++(ops.drop (j+1)).flatMap iz):=by
 have h:=LB hj o;obtain⟨h1,h2⟩:=cn.1 hj;have:ops.set j o=ops:=by rw[<-h2,List.set_getElem_self]
 rw[this]at h;exact h
def Zn{ops:List gn}{j:Nat}(h:j<=ops.length):((ops.take j).flatMap iz).length=j*25:=by rw[cD mQ,fu,nZ h]
def acV{V:AW}{ov:ad}{ops:List gn}{bo:Option Nat}(h:iR V 25 iz ov ops bo){j:Nat}{o:gn}(hj:ops[j]? =some o)(k:Int)(r:oE):
 ∃B cs,bo=some B/\B<V.next/\(∀(W:AW) k',nR 25 ov (.int k' (j:Int)) W=some (.pointer (some ⟨B,j*25,none⟩),W))/\
  (∀W:AW,W.get B=V.get B->gv 1 (.pointer (some ⟨B,j*25+3,none⟩)) (.af k) W=some (ak,W.put B (.cells cs)))/\
  (∀W:AW,W.get B=some (.cells cs)->gv 9 (.pointer (some ⟨B,j*25+16,none⟩)) (lC r) W=some (ak,W.put B (.cells ((ops.set j {o with to:=k,rp:=r}).flatMap iz))))/\
  ∀W:AW,V.next<=W.next->W.get B=some (.cells ((ops.set j {o with to:=k,rp:=r}).flatMap iz))->iR W 25 iz ov (ops.set j {o with to:=k,rp:=r}) bo:=by
 obtain⟨h1,-⟩:=cn.1 hj;have hl:=Zn (ops:=ops) (j:=j) (by omega);rcases h with⟨rfl,-,-⟩|⟨h0,B,rfl,h2,rfl,h4⟩
 ·simp at h1
 refine⟨B,(ops.take j).flatMap iz++(iz {o with to:=k}++(ops.drop (j+1)).flatMap iz),rfl,h2,λW k'=>?_,λW hW=>?_,λW hW=>?_,λW hn hW=>.inr ⟨λe=>h0 (by simpa using e),B,rfl,by omega,by rw[sI],hW⟩⟩
 ·rw[rT h1,aN]
 ·rw[h4,RO hj]at hW;rw[AV (n:=1) (v:=.af k) hW rfl (by rw[cT,cT,hl,mQ];show j*25+3+1<=_;omega) rfl];have:=Do ((ops.take j).flatMap iz) (iz o) ((ops.drop (j+1)).flatMap iz) [.af k] 3 (by rw[mQ];show 3+1<=25;omega);rw[hl,ac3]at this;exact iH (λc=>some (ak,W.put B (.cells c))) this
 ·rw[AV (n:=9) (v:=lC r) hW rfl (by rw[cT,cT,hl,mQ];show j*25+16+9<=_;omega) rfl];have:=Do ((ops.take j).flatMap iz) (iz {o with to:=k}) ((ops.drop (j+1)).flatMap iz) (lC r).cells.toList 16 (by rw[mQ];show 16+9<=25;omega);rw[hl,adf]at this;rw[LB hj];exact iH (λc=>some (ak,W.put B (.cells c))) this
def aa6{α:Type}{P:Program}{W:AW}{ts:Array ae}{z bytes:Nat}{f:α->List ad}{v:ad}{l:List α}{bo:Option Nat}(a:α)(hk:mq P ts z bytes=true)(hf:∀a,(f a).length=z)(h1:∀a,(f a).all Eng.one=true)
 (h:iR W z f v l bo)(hb:l.length+1<1099511627776)(nD:(2*(l.length+1)+192)*bytes<=281474976710656):
 ∃v' W',dB P (W.add (.cells (f a))) ts v (.slice (some ⟨W.next,0,none⟩) 1 1)=some (v',W')/\iR W' z f v' (l++[a]) (some (W.next+1))/\W'.next=W.next+2/\∀b,b<W.next->bo≠some b->W'.get b=W.get b:=by
 have h':iR (W.add (.cells (f a))) z f v l bo:=h.keep (by rw[AW.ar];omega) λB hB=>AW.aD _ _ (by have:=h.lt hB;omega)
 obtain⟨v',W',a1,a2,a3,a4⟩:=h'.push (a:=a) hk hf h1 (b:=W.next) (c:=1) bU hb nD;rw[AW.ar]at a2 a3;exact⟨v',W',a1,a2,a3,λb hb ee=>(a4 b (by rw[AW.ar];omega) ee).trans (AW.aD _ _ (by omega))⟩
def CU{α:Type}{W:AW}{z:Nat}{f:α->List ad}{v:ad}{l:List α}{bo:Option Nat}(h:iR W z f v l bo):v.cells=#[v]/\Eng.one v=true:=by rcases h with⟨-,rfl,-⟩|⟨-,B,-,-,rfl,-⟩<;>exact⟨rfl,rfl⟩
def Kj{U:AW}{tb:Nat}{v:fc}{sv ev ov pv:ad}{Fy:List Int}{bp:Option Nat}(hc:U.get tb=some (.cells (PV v sv ev ov pv)))(hp:iR U 1 oY pv Fy bp)(hbp:bp≠some tb)(Mp:tb<U.next)(hl:Fy.length<=1000)(n:Int):
 ∃TZ U1 U2,dB Tryz.prog (U.add (.cells (oY n))) #[28,28] pv (.slice (some ⟨U.next,0,none⟩) 1 1)=some (TZ,U1)/\gv 1 (.pointer (some ⟨tb,6,none⟩)) TZ U1=some (ak,U2)/\U2.get tb=some (.cells (PV v sv ev ov TZ))/\iR U2 1 oY TZ (Fy++[n]) (some (U.next+1))/\U2.next=U.next+2/\∀b,b<U.next->b≠tb->bp≠some b->U2.get b=U.get b:=by
 obtain⟨TZ,U1,a1,a2,a3,a4⟩:=aa6 n aiw E6 Ku hp (by omega) (by omega);have ht:U1.get tb=some (.cells (PV v sv ev ov pv)):=(a4 tb Mp hbp).trans hc;refine⟨TZ,U1,U1.put tb (.cells (PV v sv ev ov TZ)),a1,?_,AW.aW _ _ _,a2.keep (by rw[AW.bh];omega) λB hB=>AW.ay _ _ (by injection hB with hB;omega),by rw[AW.bh,a3],λb hb ee Mk=>(AW.ay _ _ (aV ee)).trans (a4 b hb Mk)⟩;rw[nY (CU a2).1 (CU a2).2,abw ht];rfl
def Y5{U:AW}{tb:Nat}{v:fc}{sv ev ov pv:ad}{ops:List gn}{bo:Option Nat}(hc:U.get tb=some (.cells (PV v sv ev ov pv)))(hp:iR U 25 iz ov ops bo)(hbp:bo≠some tb)(Mp:tb<U.next)(hl:ops.length<=1000)(n:gn):
 ∃Yx U1 U2,dB Tryz.prog (U.add (.cells (iz n))) #[78,78] ov (.slice (some ⟨U.next,0,none⟩) 1 1)=some (Yx,U1)/\gv 1 (.pointer (some ⟨tb,5,none⟩)) Yx U1=some (ak,U2)/\U2.get tb=some (.cells (PV v sv ev Yx pv))/\iR U2 25 iz Yx (ops++[n]) (some (U.next+1))/\U2.next=U.next+2/\∀b,b<U.next->b≠tb->bo≠some b->U2.get b=U.get b:=by
 obtain⟨Yx,U1,a1,a2,a3,a4⟩:=aa6 n akC mQ ZG hp (by omega) (by omega);have ht:U1.get tb=some (.cells (PV v sv ev ov pv)):=(a4 tb Mp hbp).trans hc;refine⟨Yx,U1,U1.put tb (.cells (PV v sv ev Yx pv)),a1,?_,AW.aW _ _ _,a2.keep (by rw[AW.bh];omega) λB hB=>AW.ay _ _ (by injection hB with hB;omega),by rw[AW.bh,a3],λb hb ee Mk=>(AW.ay _ _ (aV ee)).trans (a4 b hb Mk)⟩;rw[nY (CU a2).1 (CU a2).2,abw ht];rfl
def Cs(x:cK)(nw:Int)(i:Nat):Bool:=decide ((dO x i).dl<=nw)&&decide ((dO x i).st=1)
def fS(x:cK)(nw:Int):List Nat:=(List.range x.st.length).filter (Cs x nw)
def Bg(nw:Int)(x:cK)(i:Nat):cK:=sf {x with st:=x.st.set i (vL (dO x i) nw)} i
def K9(x:cK)(nw:Int)(L:List Nat):cK:=L.foldl (Bg nw) {x with now:=nw}
def Ys(x:cK)(a:Int):Int:=(dO x a.toNat).dl
def Sq(x:cK)(a b:Nat):Prop:=GF (Ys x) (a:Int) (b:Int)
def vi(x:cK)(nw:Int)(L:List Nat):Prop:=L.Perm (fS x nw)/\L.Pairwise (Sq x)
def vi.one{x:cK}{nw:Int}{L L':List Nat}(h:vi x nw L)(h':vi x nw L'):L=L':=by refine List.Perm.eq_of_pairwise (le:=Sq x) ?_ h.2 h'.2 (h.1.trans h'.1.symm);intro a b _ _ h1 h2;unfold Sq GF at h1 h2;omega
def Wz(f:Nat->Int){n i j:Nat}(hi:i<n)(hj:j<n):((List.range n).map (swp f i j)).Perm ((List.range n).map f):=by
 have hl:((List.range n).map f).length=n:=by simp
 have e:(List.range n).map (swp f i j)=(((List.range n).map f).set i ((List.range n).map f)[j]).set j ((List.range n).map f)[i]:=by
  apply List.ext_getElem (by simp);intro t h1 h2;simp only[List.getElem_map,List.getElem_range,List.getElem_set];unfold swp;by_cases c:t=j
  ·subst c;simp
  ·by_cases c2:t=i
   ·subst c2;simp[c,aV c]
   ·simp[c,c2,aV c,aV c2]
 rw[e];exact List.set_set_perm (by omega) (by omega)
def kR.perm{n:Nat}{f g:Nat->Int}(p:kR 0 n f g):((List.range n).map g).Perm ((List.range n).map f):=by
 induction p with
 |refl=>exact List.Perm.refl _
 |step _ _ q2 _ q4 ih=>exact(Wz _ q2 q4).trans ih
def S5(x:cK)(nw:Int){t:Nat}(ht:t<(fS x nw).length):(fS x nw)[t]<x.st.length:=by have:=ez ht;unfold fS at this;rw[Fk,nF]at this;exact this.1
def S3(x:cK)(nw:Int){i j:Nat}(hij:i<j)(hj:j<(fS x nw).length):(fS x nw)[i]<(fS x nw)[j]:=by have:=(List.pairwise_lt_range (n:=x.st.length)).filter (Cs x nw);exact List.pairwise_iff_getElem.1 this i j (by unfold fS at hj;omega) hj hij
section
variable {W0 W V:AW} {ob sb qb:Nat} {bq:Nat->Nat} {x x':cK} {sv:ad} {o:jS} {s:Int}
def dT.l18(h:dT W0 W ob sb qb bq x sv o s):bG (.pointer (some ⟨ob,18,none⟩)) W=some (.af o.nw,W):=h.ld rfl
def dT.YD(h:dT W0 W ob sb qb bq x sv o s):bG (.pointer (some ⟨ob,4,none⟩)) W=some (.af x.now,W):=h.ld rfl
def dT.lsi(h:dT W0 W ob sb qb bq x sv o s){i:Nat}(hi:i<x.st.length):fd 5 (.pointer (some ⟨sb,i*5,none⟩)) W=some (me (dO x i),W):=by
 have e:x.st[i]? =some (dO x i):=by rw[bS hi];simp[dO,bS hi]
 exact MV h.gs e
def dT.ab6(h:dT W0 W ob sb qb bq x sv o s)(nw:Int):∃W',gv 1 (.pointer (some ⟨ob,4,none⟩)) (.af nw) W=some (ak,W')/\dT W0 W' ob sb qb bq {x with now:=nw} sv o s/\W'.next=W.next/\∀b,b≠ob->W'.get b=W.get b:=by
 refine⟨W.put ob (.cells (IU x.v sv nw (uu sb x.st.length) (oh qb x.qs.length) o (s:Int))),?_,?_,AW.bh _ _ _,λb hb=>AW.ay _ _ (aV hb)⟩
 ·rw[zl,dJ h.go];rfl
 ·have g:∀b,b≠ob->(W.put ob (.cells (IU x.v sv nw (uu sb x.st.length) (oh qb x.qs.length) o (s:Int)))).get b=W.get b:=λb hb=>AW.ay _ _ (aV hb)
  exact{le:=h.le.put h.lo.1 _,lo:=h.lo,hi:=h.hi,ne:=h.ne,nq:=h.nq,sec:=h.sec,go:=AW.aW _ _ _,gs:=(g _ (aV h.ne.1)).trans h.gs,gq:=h.gq.keep (g _ (aV h.ne.2.1)) λk=>g _ (h.nq k).2.2.1}
def Wc{rb:Nat}{U:AW}{i j n nq:Nat}{l:List fA}{v:fc}{now:Int}(h1:aC U rb=some [bi ob])(h2:aC U ob=some (IU v sv now (uu sb n) (oh qb nq) o (s:Int)))(h3:aC U sb=some (l.flatMap fo))(hn:l.length=n)(hi:i<n)(hj:j<n):
 bf (.func (.func 167) #[] #[bi rb]) [.af (i:Int),.af (j:Int)] U=some (.af (Tq (l.getD i BG).dl (l.getD j BG).dl),U):=by
 refine aX rfl ?_ sn;unfold nN;have at_:∀{t:Nat},t<n->(l.flatMap fo)[t*5+2]? =some (.af (l.getD t BG).dl):=λ{t} ht=>by
  have hl:l[t]? =some (l.getD t BG):=by rw[bS (by omega)];simp[bS (show t<l.length by omega)]
  have e:=iH (λc:List ad=>c[2]?) (Gu pN hl);simp only[lD,qn]at e;simpa using e
 simp(maxDischargeDepth:=9) only[SX,MX,HX,aJ,h1,h2,h3,wX hi,wX hj,at_ hi,at_ hj,Us]
def UM{R:ah.Fr}{W2:AW}{rb:Nat}{v0:ad}{n:Nat}(hn:x.st.length=n)(hn2:n<=10000){K:LT->Option (ad×AW)}{G:ad×AW->Prop}(h:dT W0 W2 ob sb qb bq x sv o s)(hr:W2.get rb=some (.cells [bi ob]))(hrb:rb<W2.next)
 (wu:∀y∈x.st,Me y=0)(Jo:0<=x.now)(r1:R 1=bi rb)(r2:R 2=v0)(r3:R 3=.slice none 0 0)(r35:R 35=uu sb n)(r36:R 36=.af (n:Int))(r37:R 37=.af 0)
 (hK:∀R' V v,Le W2 V->R' 1=bi rb->R' 2=v0->R' 3=v->Fx W2.next V 1 oY v ((fS x x.now).map λi:Nat=>(i:Int))->Ok (K (.exit 0,R',V)) G):Ok (dN (ge (fD bf) R W2) K) G:=by
 refine bz n (by omega) (λk R V=>Le W2 V/\R 1=bi rb/\R 2=v0/\R 35=uu sb n/\R 36=.af (n:Int)/\R 37=.af (k:Int)/\Fx W2.next V 1 oY (R 3) (((List.range k).filter (Cs x x.now)).map λi:Nat=>(i:Int)))
  (λr=>r.1=.exit 0/\Le W2 r.2.2/\r.2.1 1=bi rb/\r.2.1 2=v0/\Fx W2.next r.2.2 1 oY (r.2.1 3) ((fS x x.now).map λi:Nat=>(i:Int))) ⟨Le.refl _,r1,r2,r35,r36,r37,by rw[r3];exact Fx.nil _ _ _ _⟩ ?_ ?_ ?_
 ·rintro k R V hk ⟨aS,r1,r2,r35,r36,r37,hL⟩;unfold fD;have t1:decide ((k:Int)<(n:Int))=true:=dj;have t2:=λW'=>bJ W' k 1
  have e3:((k+1:Nat):Int)=(k:Int)+1:=by omega
  have hV:=h.mono aS;have cb:aC V rb=some [bi ob]:=az ((aS.get _ hrb).trans hr);have co:=hV.c;have n1:(rb=V.next)=False:=eq_false (by have:=aS.next;omega);have n2:(ob=V.next)=False:=eq_false (by have:=hV.hi;omega);have ls:=hV.lsi (show k<x.st.length by omega);have aeg:dO x k∈x.st:=by
   have:dO x k=x.st[k]'(by omega):=by simp[dO,bS (show k<x.st.length by omega)]
   rw[this];exact ez _
  have hdl:0<=(dO x k).dl:=by
   have:=wu _ aeg;unfold Me at this;repeat' split at this
   all_goals omega
  have hps:=Ho.G0 hdl Jo;have X5:(List.range (k+1)).filter (Cs x x.now)=(List.range k).filter (Cs x x.now)++(if Cs x x.now k=true then [k]else []):=by
   rw[ux,Av];congr 1;by_cases c:Cs x x.now k=true
   ·rw[aq c,List.filter_cons_of_pos c,List.filter_nil]
   ·rw[ap c,List.filter_cons_of_neg c,List.filter_nil]
  simp only[SX,r1,r35,r36,r37,t1,wX hk,ls];by_cases c:Cs x x.now k=true
  ·have hc:=c;unfold Cs at hc;rw[a8]at hc;have eG:(((List.range k).filter (Cs x x.now)).map λi:Nat=>(i:Int)).length<=k:=by rw[gV];exact eW (Iu _ _) (by simp)
   obtain⟨V3,FK⟩:∃V3,V3=V.add (.cells (fo (dO x k))):=⟨_,rfl⟩;have l3:Le V V3:=by rw[FK];exact(Le.refl V).add _
   obtain⟨v',V4,k1,k2,k3,k4⟩:=((hL.mono l3).mono ((Le.refl V3).add (.cells (oY (k:Int))))).push (P:=Tryz.prog) aiw E6 Ku (b:=V3.next) (c:=1) bU (by omega) (by omega) (by rw[AW.ar];have:=aS.next;have:=l3.next;omega);rw[FK,AW.ar]at k1;simp(maxDischargeDepth:=9) only[SX,MX,HX,Nat.reduceAdd,yF,cb,co,n1,n2,aJ,hps,hc.1,hc.2,adA,k1,t2];refine .inl ⟨k4 _ ((aS.trans l3).trans ((Le.refl _).add _)) (aM _),r1,r2,r35,r36,by rw[e3];rfl,?_⟩;rw[X5,aq c,qI];exact k2
  ·have hc:(decide ((dO x k).dl<=x.now)&&decide ((dO x k).st=1))=false:=by unfold Cs at c;exact zn.2 c
   have pE:∀V3,Le V V3->Le W2 V3/\Fx W2.next V3 1 oY (R 3) (((List.range (k+1)).filter (Cs x x.now)).map λi:Nat=>(i:Int)):=λV3 l3=>⟨aS.trans l3,by rw[X5,ap c,iD];exact hL.mono l3⟩
   have l3:Le V (V.add (.cells (fo (dO x k)))):=(Le.refl V).add _;obtain⟨f1,f2⟩:=pE _ l3;cases d1:decide ((dO x k).dl<=x.now)
   ·simp(maxDischargeDepth:=9) only[SX,MX,HX,Nat.reduceAdd,yF,cb,co,n1,n2,aJ,hps,d1,t2];exact .inl ⟨f1,r1,r2,r35,r36,by rw[e3];rfl,f2⟩
   ·rw[d1,np]at hc;simp(maxDischargeDepth:=9) only[SX,MX,HX,Nat.reduceAdd,yF,cb,co,n1,n2,aJ,hps,d1,hc,t2];exact .inl ⟨f1,r1,r2,r35,r36,by rw[e3];rfl,f2⟩
 ·rintro R V ⟨aS,r1,r2,r35,r36,r37,hL⟩;unfold fD;have t1:decide ((n:Int)<(n:Int))=false:=cN;simp only[SX,r36,r37,t1,ai];exact⟨by simp,ao,aS,r1,r2,by rw[fS,hn];exact hL⟩
 ·rintro⟨e,R,V⟩ ⟨rfl,h1,h2,h3,h4⟩;exact hK R V _ h1 h2 h3 rfl h4
end
def AP(x:cK)(i:Nat):(sf x i).v=x.v/\(sf x i).now=x.now/\(sf x i).st.length=x.st.length/\(sf x i).qs.length=x.qs.length:=by unfold sf;split<;>simp
def Br(nw:Int)(x:cK)(L:List Nat):(L.foldl (Bg nw) x).v=x.v/\(L.foldl (Bg nw) x).now=x.now/\(L.foldl (Bg nw) x).st.length=x.st.length/\(L.foldl (Bg nw) x).qs.length=x.qs.length:=by
 induction L generalizing x with
 |nil=>exact⟨rfl,rfl,rfl,rfl⟩
 |cons i L ih=>rw[wF];obtain⟨a,b,c,d⟩:=ih (Bg nw x i);obtain⟨a',b',c',d'⟩:=AP {x with st:=x.st.set i (vL (dO x i) nw)} i;exact⟨a.trans a',b.trans b',c.trans (c'.trans (by simp)),d.trans d'⟩
def uP(a:Option Addr)(W:AW):nG (.pointer a) W=some (bi W.next,W.add (.cells [.pointer a])):=aL rfl rfl
section
variable {W0 W V:AW} {ob sb qb:Nat} {bq:Nat->Nat} {x x':cK} {sv:ad} {o:jS} {s:Int}
def adV{R:ah.Fr}{U:AW}{rb B c m:Nat}{v0:ad}{L:List Nat}{K:LT->Option (ad×AW)}{G:ad×AW->Prop}(h:dT W0 U ob sb qb bq x sv o s)(ut:sb<ob/\qb<ob)
 (hr:U.get rb=some (.cells [bi ob]))(hrb:rb<U.next)(hrn:rb≠sb/\rb≠qb)(hB:L≠[]->U.get B=some (.cells (L.map λi:Nat=>Value.int .i64 (i:Int)))/\B<U.next/\B≠sb/\B≠qb)
 (hL:∀i∈L,i<x.st.length)(eG:L.length=m)(hm:m<=10000)(hk:∀i,i<x.st.length->xG x.v i<x.qs.length)(hv:x.v.aA.length<1000)(h1:x.now<9223372036854775808)(h2:x.v.dS<9223372036854775808)
 {v:ad}(Q2:v=.slice (some ⟨B,0,none⟩) m c\/L=[])(r1:R 1=bi rb)(r2:R 2=v0)(r67:R 67=v)(r68:R 68=.af (m:Int))(r69:R 69=.af 0)
 (hK:∀R' V,R' 2=v0->dT W0 V ob sb qb bq (L.foldl (Bg x.now) x) sv o s->Fr U V sb qb->Ok (K (.exit 2,R',V)) G):Ok (dN (ge (eA bf) R U) K) G:=by
 refine bz m (by omega) (λk R V=>dT W0 V ob sb qb bq ((L.take k).foldl (Bg x.now) x) sv o s/\Fr U V sb qb/\R 1=bi rb/\R 2=v0/\R 67=v/\R 68=.af (m:Int)/\R 69=.af (k:Int))
  (λr=>r.1=.exit 2/\dT W0 r.2.2 ob sb qb bq (L.foldl (Bg x.now) x) sv o s/\Fr U r.2.2 sb qb/\r.2.1 2=v0) ⟨h,.refl _ _ _,r1,r2,r67,r68,r69⟩ ?_ ?_ ?_
 ·rintro k R V hkm ⟨hO,hF,r1,r2,r67,r68,r69⟩;unfold eA;have hkL:k<L.length:=by omega
  have ee:L≠[]:=λe=>by rw[e]at hkL;cases hkL
  obtain⟨b1,b2,b3,b4⟩:=hB ee;rcases Q2 with rfl|Q2;case inr=>exact absurd Q2 ee
  have t1:decide ((k:Int)<(m:Int))=true:=dj;have t2:=λW'=>bJ W' k 1
  have e3:((k+1:Nat):Int)=(k:Int)+1:=by omega
  obtain⟨s1,s2,s3,s4⟩:=Br x.now x (L.take k);have gB:V.get B=some (.cells (L.map λi:Nat=>Value.int .i64 (i:Int))):=(hF.2 B b2 b3 b4).trans b1;have lB:bG (.pointer (some ⟨B,k,none⟩)) V=some (.af (L[k]:Int),V):=aZ (az gB) (by rw[jH,bS hkL];rfl);have gr:∀V',V'.get rb=some (.cells [bi ob])->bG (bi rb) V'=some (bi ob,V'):=λV' hV=>aZ (az hV) rfl
  have gr0:V.get rb=some (.cells [bi ob]):=(hF.2 rb hrb hrn.1 hrn.2).trans hr;have hi:L[k]<((L.take k).foldl (Bg x.now) x).st.length:=by rw[s3];exact hL _ (ez _)
  generalize hy:(L.take k).foldl (Bg x.now) x=y at *;have Xy:=hO.lsi hi;have uk:=IB (z:=vL (dO y L[k]) y.now) hO.gs (show y.st[L[k]]? =some (dO y L[k])by rw[bS hi];simp[dO,bS hi]);have vp:ff (bi ob) (bi ob)=true:=by simp only[MX]
  simp only[SX,r1,r67,r68,r69,t1,LF hkm,lB,gr _ gr0,aJ,aN,hO.l5,wX hi,Xy,hO.YD,LX,dP,kB,vp,ki,uk];have O2:∀b,b≠sb->(V.put sb (.cells ((y.st.set L[k] (vL (dO y L[k]) y.now)).flatMap fo))).get b=V.get b:=λb hb=>AW.ay _ _ (aV hb)
  have hf1:Fr V (V.put sb (.cells ((y.st.set L[k] (vL (dO y L[k]) y.now)).flatMap fo))) sb qb:=⟨aM _,λb _ h1 _=>O2 b h1⟩;have HO:=hO.step (x':={y with st:=y.st.set L[k] (vL (dO y L[k]) y.now)}) hf1 rfl rfl (by simp) rfl (AW.aW _ _ _) (hO.gq.keep (O2 _ (aV hO.ne.2.2)) λj=>O2 _ (hO.nq j).2.2.2.1);generalize V.put sb (.cells ((y.st.set L[k] (vL (dO y L[k]) y.now)).flatMap fo))=V1 at *;obtain⟨V2,k1,k2,k3⟩:=Kl HO (i:=L[k]) (by simpa using hi) (by show xG y.v L[k]<y.qs.length;rw[s1,s4];exact hk _ (by rw[<-s3];exact hi)) (by show y.v.aA.length<1000;rw[s1];exact hv) (by show y.now<_;rw[s2];exact h1) (by show y.v.dS<_;rw[s1];exact h2);simp only[SX,gr V1 ((O2 rb hrn.1).trans gr0),k1,t2,ai];refine .inl ⟨ao,?_,hF.trans (hf1.trans k3),r1,r2,r67,r68,by rw[e3];rfl⟩;rw[lW hkL,Ij,hy,wF,List.foldl_nil];unfold Bg;rw[<-s2];exact k2
 ·rintro R V ⟨hO,hF,r1,r2,r67,r68,r69⟩;unfold eA;have t1:decide ((m:Int)<(m:Int))=false:=cN;rw[<-eG,cY]at hO;simp only[SX,r68,r69,t1,ai];exact⟨by simp,ao,hO,hF,r2⟩
 ·rintro⟨e,R,V⟩ ⟨rfl,a,b,c⟩;exact hK R V c a b
def wJ{l:List Int}:arr l.length (λt=>l.getD t 0)=l.map (Value.int .i64):=by
 apply vw;intro t;by_cases h:t<l.length
 ·rw[Am _ h,jH,bS h];simp[List.getD,bS h]
 ·rw[iE (by rw[wK];omega),iE (by simp;omega)]
def T0(x:cK)(nw:Int):(List.range (fS x nw).length).map (λt=>((fS x nw).map λi:Nat=>(i:Int)).getD t 0)=(fS x nw).map λi:Nat=>(i:Int):=by
 apply List.ext_getElem (by simp);intro t h1 h2;have h3:t<(fS x nw).length:=by simpa using h2
 simp[List.getD,h3]
def Wt{x:cK}{nw:Int}{g:Nat->Int}(p:kR 0 (fS x nw).length (λt=>((fS x nw).map λi:Nat=>(i:Int)).getD t 0) g)(hs:oF (Ys x) g 0 (fS x nw).length):vi x nw ((List.range (fS x nw).length).map λt=>(g t).toNat)/\∀t,t<(fS x nw).length->g t=((g t).toNat:Int):=by
 have hp:=p.perm;rw[T0]at hp;have uj:∀t,t<(fS x nw).length->g t=((g t).toNat:Int):=λt ht=>by
  have:g t∈(fS x nw).map λi:Nat=>(i:Int):=hp.mem_iff.1 (mE.2 ⟨t,nF.2 ht,rfl⟩)
  obtain⟨i,-,e⟩:=mE.1 this;rw[<-e];simp
 refine⟨⟨?_,?_⟩,uj⟩
 ·have h2:=hp.map Int.toNat;rw[List.map_map,List.map_map]at h2;have e:(Int.toNat ∘λi:Nat=>(i:Int))=id:=by funext i;simp
  rw[e,List.map_id]at h2;exact h2
 ·rw[List.pairwise_map];refine List.Pairwise.imp_of_mem ?_ (List.pairwise_lt_range (n:=(fS x nw).length));intro a b ha hb Uk;have h1:=hs a b (mP _) Uk (nF.1 hb);unfold Sq;rw[<-uj a (nF.1 ha),<-uj b (nF.1 hb)];exact h1
end
structure TkB (x:cK) (o:jS):Prop where
 n:x.st.length<=10000
 se:∀y∈x.st,Me y=0
 now:0<=x.now
 nw:o.nw<9223372036854775808
 dS:x.v.dS<9223372036854775808
 v:x.v.aA.length<1000
 k:∀i,i<x.st.length->xG x.v i<x.qs.length
section
variable {W0 W V:AW} {ob sb qb:Nat} {bq:Nat->Nat} {x x':cK} {sv:ad} {o:jS} {s:Int}
def K7(h:dT W0 W ob sb qb bq x sv o s)(ut:sb<ob/\qb<ob)(hc:o.nw<x.now):jr W0 W ob sb qb bq sv o s 135 x (rK 18):=by refine jW h ut mV ?_;unfold fE;have Ov:Le W (W.add (.cells [bi ob])):=(Le.refl W).add _;obtain⟨V,al,nh,n2,g2⟩:=j7 (W.add (.cells [bi ob]));rw[AW.ar]at al n2 g2;have aS:=Ov.trans nh;have gr:V.get W.next=some (.cells [bi ob]):=(nh.get _ (by rw[AW.ar];omega)).trans (AW.aH _ _);have lr:bG (bi W.next) V=some (bi ob,V):=aZ (az gr) rfl;have h1:=h.mono aS;obtain⟨p1,p2⟩:=pJ g2 (rK 18);have d:=be hc;simp only[SX,uP,al,lr,aJ,aN,Nat.reduceAdd,h1.l18,h1.YD,d,oR,p1,p2,ai];exact⟨ao,eV h h1 (.of_le aS) (by omega) _⟩
def XV(h:dT W0 W ob sb qb bq x sv o s)(ut:sb<ob/\qb<ob)(hb:TkB x o)(hc:¬o.nw<x.now):∃L,vi x o.nw L/\jr W0 W ob sb qb bq sv o s 135 (K9 x o.nw L) kI:=by
 have hq:∃L,vi x o.nw L/\Ok (fE bf (bi ob) W) λq=>q.1=lC kI/\dT W0 q.2 ob sb qb bq (K9 x o.nw L) sv o s/\W.next<=q.2.next/\∀b,ob<b->b<W.next->q.2.get b=W.get b:=by
  have Nq:=h.hi;have Ov:Le W (W.add (.cells [bi ob])):=(Le.refl W).add _;obtain⟨V,al,nh,n2,g2⟩:=j7 (W.add (.cells [bi ob]));rw[AW.ar]at al n2 g2;have aS:=Ov.trans nh;have gr:V.get W.next=some (.cells [bi ob]):=(nh.get _ (by rw[AW.ar];omega)).trans (AW.aH _ _);have lr:bG (bi W.next) V=some (bi ob,V):=aZ (az gr) rfl;have h1:=h.mono aS;obtain⟨V1,st1,h2,n3,o3⟩:=h1.ab6 o.nw;have gr1:V1.get W.next=some (.cells [bi ob]):=(o3 _ (by omega)).trans gr;have g3:V1.get (W.next+1)=some (.cells (oH kI)):=(o3 _ (by omega)).trans g2;have lr1:bG (bi W.next) V1=some (bi ob,V1):=aZ (az gr1) rfl;have d:=bm hc;have pE:∀{L:List Nat} {U:AW} {R:ah.Fr} {v:ad} {B c:Nat},vi x o.nw L->V1.next<=U.next->(∀b,b<V1.next->U.get b=V1.get b)->R 1=bi W.next->R 2=bi (W.next+1)->R 3=v->(v=.slice (some ⟨B,0,none⟩) L.length c\/L=[]/\v=.slice none 0 0)->
   (L≠[]->U.get B=some (.cells (L.map λi:Nat=>Value.int .i64 (i:Int)))/\B<U.next/\V1.next<=B)->∀R',R' 1=bi W.next->R' 2=bi (W.next+1)->R' 67=v->R' 68=.af (L.length:Int)->R' 69=.af 0->
   Ok (dN (ge (eA bf) R' U) λSC=>xv 2 SC.1 (dN (dX Tryz.prog 50 [] SC.2.2) λr88=>dN (gv 9 (SC.2.1 2) r88.1 r88.2) λM9=>iS Tryz.prog [((SC.2.1 2),some 50)] M9.2) none) λq=>q.1=lC kI/\dT W0 q.2 ob sb qb bq (K9 x o.nw L) sv o s/\W.next<=q.2.next/\∀b,ob<b->b<W.next->q.2.get b=W.get b:=by
   intro L U R v B c hD un uo _ _ _ hv hB R' a1 a2 a67 a68 a69;have hU:dT W0 U ob sb qb bq {x with now:=o.nw} sv o s:=h2.mono ⟨un,uo⟩;have aeg:∀i∈L,i<x.st.length:=λi hi=>by have:=hD.1.mem_iff.1 hi;unfold fS at this;rw[Fk,nF]at this;exact this.1
   have eG:L.length<=10000:=by rw[hD.1.length_eq];exact eW (Iu _ _) (by rw[CW];exact hb.n)
   refine adV (x:={x with now:=o.nw}) (B:=B) (c:=c) (m:=L.length) (v0:=bi (W.next+1)) (v:=v) hU ut ((uo _ (by omega)).trans gr1) (by omega) ⟨by omega,by omega⟩
    (λee=>let⟨e1,e2,e3⟩:=hB ee;⟨e1,e2,by omega,by omega⟩) aeg rfl eG hb.k hb.v hb.nw hb.dS (hv.imp id (·.1)) a1 a2 a67 a68 a69 ?_
   intro R2 V2 z2 zO zF;have g5:V2.get (W.next+1)=some (.cells (oH kI)):=((zF.2 _ (by omega) (by omega) (by omega)).trans (uo _ (by omega))).trans g3;obtain⟨p1,p2⟩:=pJ g5 kI;simp only[SX,HY,z2,p1,p2,ai];have zo:∀b,ob<b->b<W.next->V2.get b=W.get b:=λb b1 b2=>(zF.2 b (by omega) (by omega) (by omega)).trans ((uo b (by omega)).trans ((o3 b (by omega)).trans (aS.get b b2)))
   refine⟨ao,zO.other (by have:=h.le.next;omega) (by omega) (by omega) (by omega) (λk=>by have:=h.nq k;omega),by rw[AW.bh];have:=zF.1;omega,λb b1 b2=>(AW.ay _ _ (by omega)).trans (zo b b1 b2)⟩
  by_cases hd:fS x o.nw=[]
  ·refine⟨[],⟨by rw[hd],List.Pairwise.nil⟩,?_⟩;have hI:vi x o.nw []:=⟨by rw[hd],List.Pairwise.nil⟩;unfold fE;simp only[SX,uP,al,lr,aJ,aN,Nat.reduceAdd,h1.l18,h1.YD,d,st1,lr1,h2.l5,fZ BZ];refine UM (x:={x with now:=o.nw}) (n:=x.st.length) (v0:=bi (W.next+1)) (rb:=W.next) rfl hb.n h2 gr1 (by omega) hb.se (by show 0<=o.nw;have:=hb.now;omega) rfl rfl rfl rfl rfl rfl ?_;intro R3 V3 v l3 q1 q2 q3 q4;have q4':Fx V1.next V3 1 oY v ((fS x o.nw).map λi:Nat=>(i:Int)):=q4;rw[hd]at q4';rcases q4' with⟨-,rfl⟩|⟨e,-⟩;case inr=>exact absurd rfl e
   simp only[SX,q1,q3,Th,fZ wU];exact pE (B:=0) (c:=0) (v:=.slice none 0 0) (R:=R3) hI l3.next (λb hb=>l3.get b hb) q1 q2 q3 (.inr ⟨rfl,rfl⟩) (λee=>absurd rfl ee) _ q1 q2 rfl rfl rfl
  ·obtain⟨f,hf⟩:∃f:Nat->Int,f=λt=>((fS x o.nw).map λi:Nat=>(i:Int)).getD t 0:=⟨_,rfl⟩
   have hm:0<(fS x o.nw).length:=ww.2 hd;have En:∀t (ht:t<(fS x o.nw).length),f t=(((fS x o.nw)[t]:Nat):Int):=λt ht=>by rw[hf];simp[List.getD,ht]
   have eG:(fS x o.nw).length<=10000:=eW (Iu _ _) (by rw[CW];exact hb.n);obtain⟨L,hL⟩:∃L,vi x o.nw L:=by
    classical
    refine⟨(fS x o.nw).mergeSort (λa b=>decide (Sq x a b\/a=b)),Dm _ _,?_⟩;have h1:=List.pairwise_mergeSort (le:=λa b=>decide (Sq x a b\/a=b)) (λa b c h1 h2=>by
     simp only[gG]at *;rcases h1 with h1|rfl
     ·rcases h2 with h2|rfl
      ·exact .inl (GF.trans h1 h2)
      ·exact .inl h1
     ·exact h2) (λa b=>by
     simp only[mJ,gG];unfold Sq GF;omega) (fS x o.nw);have h2:((fS x o.nw).mergeSort (λa b=>decide (Sq x a b\/a=b))).Nodup:=(Dm _ _).nodup_iff.2 ((List.nodup_range (n:=x.st.length)).filter _);refine(h1.and h2).imp λ{a b} hh=>?_
    have h3:=hh.1;simp only[gG]at h3;rcases h3 with h3|h3
    ·exact h3
    ·exact absurd h3 hh.2
   refine⟨L,hL,?_⟩;unfold fE;simp only[SX,uP,al,lr,aJ,aN,Nat.reduceAdd,h1.l18,h1.YD,d,st1,lr1,h2.l5,fZ BZ];refine UM (x:={x with now:=o.nw}) (n:=x.st.length) (v0:=bi (W.next+1)) (rb:=W.next) rfl hb.n h2 gr1 (by omega) hb.se (by show 0<=o.nw;have:=hb.now;omega) rfl rfl rfl rfl rfl rfl ?_;intro R3 V3 v l3 q1 q2 q3 q4;have q4':Fx V1.next V3 1 oY v ((fS x o.nw).map λi:Nat=>(i:Int)):=q4;rcases q4' with⟨e,-⟩|⟨-,B,i1,i2,rfl,i4⟩
   ·exact absurd (List.map_eq_nil_iff.1 e) hd
   rw[gV]at q3;have hA:iW V3 B (fS x o.nw).length f V3:=⟨rfl,λ_ _=>rfl,i2,by
    rw[i4,J7,hf];have:=wJ (l:=(fS x o.nw).map λi:Nat=>(i:Int));rw[gV]at this;rw[this]⟩;have anO:Cz V3 B (fS x o.nw).length (.func (.func 167) #[] #[bi W.next]) (Ys x) (λa=>∃i:Nat,i<x.st.length/\a=(i:Int)):=by
    intro U f' hU a b ⟨i,hi,ea⟩ ⟨j,hj,eb⟩;subst ea eb;have gu:∀b,b<V1.next->aC U b=aC V1 b:=λb hb=>by unfold aC;rw[hU.ot b (by omega),l3.get b hb]
    have e1:=Wc (ob:=ob) (sb:=sb) (rb:=W.next) (U:=U) (s:=s) (o:=o) (sv:=sv) (nq:=x.qs.length) (qb:=qb) (v:=x.v) (now:=o.nw) (l:=x.st) (i:=i) (j:=j) ((gu _ (by omega)).trans (az gr1)) ((gu _ (by omega)).trans h2.c) ((gu _ (by omega)).trans (az h2.gs)) rfl hi hj;refine⟨_,e1,?_⟩;rw[Uv];unfold Ys;simp only[sL]
   obtain⟨U,g,e1,e2,e3,e4⟩:=F5 (c:=dY+1) eG anO (λt ht=>⟨_,S5 x o.nw ht,En t ht⟩) (λi j h1 h2=>by rw[En i (by omega),En j h2];exact Int.ofNat_lt.2 (S3 x o.nw h1 h2)) hA;rw[hf]at e3;obtain⟨d1,d2⟩:=Wt e3 e4;have eL:=hL.one d1;have afE:L.length=(fS x o.nw).length:=hL.1.length_eq;simp only[SX,q1,q3,e1,fZ wU];have q3':R3 3=.slice (some ⟨B,0,none⟩) L.length (dY+1):=by rw[afE];exact q3
   rw[<-afE];refine pE (B:=B) (c:=dY+1) (v:=.slice (some ⟨B,0,none⟩) L.length (dY+1)) (R:=R3) hL (by rw[e2.nx];exact l3.next) (λb hb=>(e2.ot b (by omega)).trans (l3.get b hb)) q1 q2 q3' (.inl rfl) (λ_=>⟨?_,by rw[e2.nx];exact i2,i1⟩) _ q1 q2 rfl rfl rfl;rw[e2.ce,eL];unfold arr;rw[List.map_map];congr 2;refine List.map_congr_left λt ht=>?_
   rw[nF]at ht;show Value.int .i64 (g t)=Value.int .i64 (((g t).toNat:Nat):Int);rw[<-d2 t ht]
 obtain⟨L,hL,ht⟩:=hq;exact⟨L,hL,LN h mV ht⟩
end
def DD(k se sc t1 e:Int):Int×Int×Int:=
 if e≠0 then(0,0,e)else if k=2\/k=4\/k=5\/k=8 then(se,-1,0)else if k=6\/k=7\/k=9 then(IntKind.i64.wrap t1,-1,0)else if k=3\/k=10\/k=11 then(-1,sc,0)else(-1,-1,0)
def UZ(x:Int×Int×Int):ad:=.tuple #[.af x.1,.af x.2.1,.af x.2.2]
def ZL(n:Int)(W:AW):o8 Tryz.prog 43 3 (.int .u32 n) W=some (.af (IntKind.i64.wrap n),W):=aL (by kernel_rfl) rfl
def nk(a b:Int):Int:=IntKind.i64.wrap ↑(BitVec.ofInt IntKind.i64.bits a&&&BitVec.ofInt IntKind.i64.bits b).toNat
def RH{t:ae}{c d:Bool}{a b:Int}{W:AW}:bs Tryz.prog .and t c d (.af a) (.af b) W=some (.af (nk a b),W):=SO
def ago:nk 1 4=0/\nk 1 64=0/\nk 1 8=0/\nk 7 4=4/\nk 7 64=0/\nk 7 8=0/\nk 11 4=0/\nk 11 64=0/\nk 11 8=8/\nk 27 4=0/\nk 27 64=0/\nk 27 8=8/\nk 64 4=0/\nk 64 64=64/\nk 64 8=0/\nk 67 4=0/\nk 67 64=64/\nk 67 8=0/\nk 99 4=0/\nk 99 64=64/\nk 99 8=0/\nk 128 4=0/\nk 128 64=0/\nk 128 8=0:=by decide+kernel
def MP(k:Int):k=1\/k=2\/k=3\/k=4\/k=5\/k=6\/k=7\/k=8\/k=9\/k=10\/k=11\/k=12\/k<1\/12<k:=by omega
def X9{k ow un se sc n to t1 t2 t3 t4 nw:Int}(hk:k<1\/12<k):H3 k ow un se sc n to t1 t2 t3 t4 nw=2:=aq hk
def F0(k ow un se sc n to t1 t2 t3 t4 nw:Int){W:AW}(hG:GW W):bf (.func (.func 98) #[] #[]) [.agg (kS k ow un se sc n to t1 t2 t3 t4 nw)] W=some (UZ (DD k se sc t1 (H3 k ow un se sc n to t1 t2 t3 t4 nw)),W):=by
 refine aX rfl ?_ Cp;have hP:∀o,bf (.func (.func 51) #[] #[]) [.agg (kS k ow un se sc n to t1 t2 t3 t4 nw)] (W.add o)=some (.af (H3 k ow un se sc n to t1 t2 t3 t4 nw),W.add o):=λo=>zU k ow un se sc n to t1 t2 t3 t4 nw (hG.mono ((Le.refl W).add o))
 have hU:∀o,aC (W.add o) 0=some tF:=λo=>GW.cells (hG.mono ((Le.refl W).add o))
 have hp:=hG.pos;have ix:∀(i:Int) (U:AW),0<=i/\i<13->ixA 13 1 (.pointer (some ⟨0,0,none⟩)) (.af i) U=some (.pointer (some ⟨0,i.toNat,none⟩),U):=λi U hi=>by have:=OS (len:=13) (z:=1) (b:=0) (o:=0) (n:=i) (k:=.i64) (W:=U) hi.1 (by omega);simpa using this
 have h0:¬(0=W.next):=by omega
 have hUW:=hG.cells;unfold kS at hP;unfold yB kS DD;by_cases he:H3 k ow un se sc n to t1 t2 t3 t4 nw=0;case neg=>have d:=bm he;simp(maxDischargeDepth:=9) only[SX,MX,HX,Nat.reduceAdd,hP,d,aq he];rfl
 obtain rfl|rfl|rfl|rfl|rfl|rfl|rfl|rfl|rfl|rfl|rfl|rfl|h:=MP k;rotate_right
 ·rw[X9 h]at he;cases he
 all_goals
  simp(maxDischargeDepth:=9) only[SX,MX,HX,Nat.reduceAdd,hP,he,ix,hU,tF,PW,kg,li,RH,Int.reduceToNat,Int.reduceLT,Int.reduceLE,Int.reduceEq,ago,ZL]
  simp[UZ]
def DX(bF ns:Int):Int:=if bF<0\/ns<=bF then 4 else 0
def scE(k sec nq n:Int):Int:=if sec<0\/nq<=sec then 4 else if k=3/\(n<1\/8<n)then 7 else 0
def wrE(now bF sec ns nq:Int)(o:jS):Int:=if o.k=1\/o.k=12 then 0 else if o.k≠9/\o.un<=now then 13 else if(o.k=8/\o.ow≠0)\/((o.k=6\/o.k=7)/\o.ow≠o.t2)then 14 else if o.k=3\/o.k=10\/o.k=11 then scE o.k sec nq o.n else DX bF ns
def Fs:((#[32]:Array ae)[0]?).bind Tryz.prog.underlying=some (.slice 88):=by kernel_rfl
def L3:((#[22]:Array ae)[0]?).bind Tryz.prog.underlying=some (.slice 63):=by kernel_rfl
section
variable {W:AW} {b ob:Nat} {sh dS g9 now bF sec ns nq:Int} {sv sq qq:ad} {o:jS}
def Wb(hc:aC W b=some [.af sh,.af dS,.af g9,sv,.af now,sq,qq])(hs:∀W',aR Tryz.prog .len #[31] 3 #[false] [sq] W'=some (.af ns,W')):
 gh bf (.af bF) (bi b) W=some (.af (DX bF ns),W):=by
 unfold gh DX;by_cases c:bF<0
 ·have d:=be c;simp(maxDischargeDepth:=9) only[SX,d,aq (Or.inl c)]
 ·have d:=bm c;by_cases c2:ns<=bF
  ·have d2:=be c2;simp(maxDischargeDepth:=9) only[SX,MX,d,hc,hs,d2,aq (Or.inr c2)]
  ·have d2:=bm c2;simp(maxDischargeDepth:=9) only[SX,MX,d,hc,hs,d2,ap (show¬(bF<0\/ns<=bF)by omega)]
def Pm(hc:aC W b=some [.af sh,.af dS,.af g9,sv,.af now,sq,qq])(ho:aC W ob=some (Mj o))(hs:∀W',aR Tryz.prog .len #[31] 3 #[false] [sq] W'=some (.af ns,W'))(hq:∀W',aR Tryz.prog .len #[32] 3 #[false] [qq] W'=some (.af nq,W'))(c:Bool):
 ga bf (.af bF) (.af sec) (bi b) (bi ob) (.bool c) W=some (.af (bif c then scE o.k sec nq o.n else DX bF ns),W):=by
 unfold ga;cases c
 ·simp(maxDischargeDepth:=9) only[SX,MX,Wb hc hs,pA]
 unfold scE;by_cases c:sec<0
 ·have d:=be c;simp(maxDischargeDepth:=9) only[SX,MX,d,je,aq (Or.inl c)]
 have d:=bm c;by_cases c2:nq<=sec
 ·have d2:=be c2;simp(maxDischargeDepth:=9) only[SX,MX,d,hc,hq,d2,je,aq (Or.inr c2)]
 have d2:=bm c2;have e0:¬(sec<0\/nq<=sec):=by omega
 by_cases k3:o.k=3
 ·have d3:=be k3;by_cases n1:o.n<1
  ·have d4:=be n1;simp(maxDischargeDepth:=9) only[SX,MX,d,hc,hq,ho,d2,d3,d4,je,ap e0,aq (show o.k=3/\(o.n<1\/8<o.n)from⟨k3,.inl n1⟩)]
  ·have d4:=bm n1;by_cases n2:8<o.n
   ·have d5:=be n2;simp(maxDischargeDepth:=9) only[SX,MX,d,hc,hq,ho,d2,d3,d4,d5,je,ap e0,aq (show o.k=3/\(o.n<1\/8<o.n)from⟨k3,.inr n2⟩)]
   ·have d5:=bm n2;simp(maxDischargeDepth:=9) only[SX,MX,d,hc,hq,ho,d2,d3,d4,d5,je,ap e0,ap (show¬(o.k=3/\(o.n<1\/8<o.n))by omega)]
 ·have d3:=bm k3;simp(maxDischargeDepth:=9) only[SX,MX,HX,d,hc,hq,ho,d2,d3,je,ap e0,ap (show¬(o.k=3/\(o.n<1\/8<o.n))fromλz=>k3 z.1)]
def w3(k:Int)(a b:Int):Int:=if k=3\/k=10\/k=11 then a else b
def Te(hc:aC W b=some [.af sh,.af dS,.af g9,sv,.af now,sq,qq])(ho:aC W ob=some (Mj o))(hs:∀W',aR Tryz.prog .len #[31] 3 #[false] [sq] W'=some (.af ns,W'))(hq:∀W',aR Tryz.prog .len #[32] 3 #[false] [qq] W'=some (.af nq,W'))(c:Bool):
 jm bf (.af bF) (.af sec) (bi b) (bi ob) (.af o.k) (.bool c) W=some (.af (bif c then(if o.ow=o.t2 then DX bF ns else 14)else w3 o.k (scE o.k sec nq o.n) (DX bF ns)),W):=by
 unfold jm w3;cases c
 ·by_cases k3:o.k=3
  ·have d3:=be k3;simp(maxDischargeDepth:=9) only[SX,MX,Nat.reduceAdd,d3,Pm hc ho hs hq,je,pA,aq (show o.k=3\/o.k=10\/o.k=11 from .inl k3)]
  have d3:=bm k3;by_cases k4:o.k=10
  ·have d4:=be k4;simp(maxDischargeDepth:=9) only[SX,MX,Nat.reduceAdd,d3,d4,Pm hc ho hs hq,je,pA,aq (show o.k=3\/o.k=10\/o.k=11 from .inr (.inl k4))]
  have d4:=bm k4;by_cases k5:o.k=11
  ·have d5:=be k5;simp(maxDischargeDepth:=9) only[SX,MX,Nat.reduceAdd,d3,d4,d5,Pm hc ho hs hq,je,pA,aq (show o.k=3\/o.k=10\/o.k=11 from .inr (.inr k5))]
  ·have d5:=bm k5;simp(maxDischargeDepth:=9) only[SX,MX,Nat.reduceAdd,d3,d4,d5,Pm hc ho hs hq,pA,ap (show¬(o.k=3\/o.k=10\/o.k=11)by omega)]
 ·by_cases c:o.ow=o.t2
  ·have d:=be c;simp(maxDischargeDepth:=9) only[SX,MX,Nat.reduceAdd,ho,d,Wb hc hs,je,aq c]
  ·have d:=bm c;simp(maxDischargeDepth:=9) only[SX,MX,Nat.reduceAdd,ho,d,je,ap c]
def w4(bF sec ns nq:Int)(o:jS):Int:=if o.k=8 then(if o.ow=0 then DX bF ns else 14)else if o.k=6\/o.k=7 then(if o.ow=o.t2 then DX bF ns else 14)else w3 o.k (scE o.k sec nq o.n) (DX bF ns)
def aak(hc:aC W b=some [.af sh,.af dS,.af g9,sv,.af now,sq,qq])(ho:aC W ob=some (Mj o))(hs:∀W',aR Tryz.prog .len #[31] 3 #[false] [sq] W'=some (.af ns,W'))(hq:∀W',aR Tryz.prog .len #[32] 3 #[false] [qq] W'=some (.af nq,W')):
 jt bf (.af bF) (.af sec) (bi b) (bi ob) W=some (.af (w4 bF sec ns nq o),W):=by
 unfold jt w4;by_cases k8:o.k=8
 ·have d8:=be k8;by_cases c:o.ow=0
  ·have d:=be c;simp(maxDischargeDepth:=9) only[SX,MX,ho,d8,d,Wb hc hs,aq k8,aq c]
  ·have d:=bm c;simp(maxDischargeDepth:=9) only[SX,MX,ho,d8,d,aq k8,ap c]
 have d8:=bm k8;by_cases k6:o.k=6
 ·have d6:=be k6;simp(maxDischargeDepth:=9) only[SX,MX,ho,d8,d6,Te hc ho hs hq,je,ap k8,aq (show o.k=6\/o.k=7 from .inl k6)]
 have d6:=bm k6;by_cases k7:o.k=7
 ·have d7:=be k7;simp(maxDischargeDepth:=9) only[SX,MX,ho,d8,d6,d7,Te hc ho hs hq,je,ap k8,aq (show o.k=6\/o.k=7 from .inr k7)]
 ·have d7:=bm k7;simp(maxDischargeDepth:=9) only[SX,MX,ho,d8,d6,d7,Te hc ho hs hq,pA,ap k8,ap (show¬(o.k=6\/o.k=7)by omega)]
def w5(now bF sec ns nq:Int)(o:jS):Int:=if o.k=9 then w4 bF sec ns nq o else if o.un<=now then 13 else w4 bF sec ns nq o
def Vg(hc:aC W b=some [.af sh,.af dS,.af g9,sv,.af now,sq,qq])(ho:aC W ob=some (Mj o))(hs:∀W',aR Tryz.prog .len #[31] 3 #[false] [sq] W'=some (.af ns,W'))(hq:∀W',aR Tryz.prog .len #[32] 3 #[false] [qq] W'=some (.af nq,W'))(c:Bool):
 jo bf (.af bF) (.af sec) (bi b) (bi ob) (.af o.k) (.bool c) W=some (.af (bif c then 0 else w5 now bF sec ns nq o),W):=by
 unfold jo w5;cases c
 ·by_cases k9:o.k=9
  ·have d9:=be k9;simp(maxDischargeDepth:=9) only[SX,MX,ho,d9,aak hc ho hs hq,pA,aq k9]
  have d9:=bm k9;by_cases c:o.un<=now
  ·have d:=be c;simp(maxDischargeDepth:=9) only[SX,MX,hc,ho,d9,d,pA,ap k9,aq c]
  ·have d:=bm c;simp(maxDischargeDepth:=9) only[SX,MX,hc,ho,d9,d,aak hc ho hs hq,pA,ap k9,ap c]
 ·simp(maxDischargeDepth:=9) only[SX,MX,je]
def abV:wrE now bF sec ns nq o=if o.k=1\/o.k=12 then 0 else w5 now bF sec ns nq o:=by
 unfold wrE w5 w4 w3;by_cases h:o.k=1\/o.k=12
 ·rw[aq h,aq h]
 rw[ap h,ap h];by_cases h9:o.k=9
 ·rw[bK,bK,bK,aq h9,bK,bK]
 rw[ap h9];by_cases hu:o.un<=now
 ·rw[aq ⟨h9,hu⟩,aq hu]
 rw[bK,ap hu];by_cases h8:o.k=8
 ·rw[aq h8];by_cases c:o.ow=0
  ·rw[bK,bK,aq c]
  ·rw[kE,ap c]
 rw[ap h8];by_cases h6:o.k=6\/o.k=7
 ·rw[aq h6];by_cases c:o.ow=o.t2
  ·rw[bK,bK,aq c]
  ·rw[kE,ap c]
 ·rw[ap h6,bK]
def NB(hs:∀W',aR Tryz.prog .len #[31] 3 #[false] [sq] W'=some (.af ns,W'))(hq:∀W',aR Tryz.prog .len #[32] 3 #[false] [qq] W'=some (.af nq,W')):
 bf (.func (.func 99) #[] #[]) [.agg #[.af sh,.af dS,.af g9,sv,.af now,sq,qq],Jm o,.af bF,.af sec] W=some (.af (wrE now bF sec ns nq o),W):=by
 refine aX rfl ?_ AX;rw[abV];unfold xF;obtain⟨V,hV⟩:∃V,V=(W.add (.cells [.af sh,.af dS,.af g9,sv,.af now,sq,qq])).add (.cells (Mj o)):=⟨_,rfl⟩;have aS:Le W V:=by rw[hV];exact((Le.refl W).add _).add _
 have hc:aC V W.next=some [.af sh,.af dS,.af g9,sv,.af now,sq,qq]:=by rw[hV];simp(maxDischargeDepth:=9) only[MX,HX]
 have ho:aC V (W.next+1)=some (Mj o):=by rw[hV];simp(maxDischargeDepth:=9) only[MX,HX]
 simp only[SX,AW.ar];rw[<-hV];clear hV;have lk:bG (.pointer (some ⟨W.next+1,0,none⟩)) V=some (.af o.k,V):=aZ ho rfl;by_cases k1:o.k=1
 ·have d1:=be k1;simp only[SX,aN,lk,d1,Vg hc ho hs hq,je,aq (show o.k=1\/o.k=12 from .inl k1),ai];exact⟨ao,aS⟩
 have d1:=bm k1;by_cases k2:o.k=12
 ·have d2:=be k2;simp only[SX,aN,lk,d1,d2,Vg hc ho hs hq,je,aq (show o.k=1\/o.k=12 from .inr k2),ai];exact⟨ao,aS⟩
 ·have d2:=bm k2;simp only[SX,aN,lk,d1,d2,Vg hc ho hs hq,pA,ap (show¬(o.k=1\/o.k=12)by omega),ai];exact⟨ao,aS⟩
end
def Cl{α:Type}(lo:Nat)(W:AW)(z:Nat)(f:α->List ad)(u:ad)(l:List α):Prop:=(l=[]/\(u=.slice none 0 0\/∃a,u=.slice (some a) 0 0))\/(l≠[]/\∃B,lo<=B/\B<W.next/\u=.slice (some ⟨B,0,none⟩) l.length (dY+z)/\W.get B=some (.cells (l.flatMap f)))
def Tf{α:Type}{t:ae}{z bytes:Nat}{f:α->List ad}(hk:mq Tryz.prog #[t,t] z bytes=true)(hf:∀a,(f a).length=z)(h1:∀a,(f a).all Eng.one=true){W:AW}{v:ad}{l:List α}(h:Rd W z f v l)
 (hb:l.length<1099511627776)(nD:(2*l.length+192)*bytes<=281474976710656):
 ∃u W',dB Tryz.prog (W.add (.cells [])) #[t,t] (.slice (some ⟨W.next,0,none⟩) 0 0) v=some (u,W')/\Le W W'/\Cl W.next W' z f u l:=by
 obtain⟨a,c,rfl,hh⟩:=h.keep ((Le.refl W).add (.cells []));by_cases h0:l=[]
 ·subst h0;cases a with
  |none=>exact⟨_,_,qT hk (aM _) (by omega) (by simpa using nD),(Le.refl W).add _,.inl ⟨rfl,.inr ⟨_,rfl⟩⟩⟩
  |some a=>exact⟨_,_,qT hk (aM _) (by omega) (by simpa using nD),(Le.refl W).add _,.inl ⟨rfl,.inr ⟨_,rfl⟩⟩⟩
 ·rcases hh with hh|⟨b,o,cs,rfl,i2,i3,i4⟩
  ·exact absurd hh h0
  have hl:0<l.length:=ww.2 h0;refine⟨_,_,Az hk i3 i4.symm (cD hf l) hl (Dy h1 l) hb nD,((Le.refl W).add _).add _,.inr ⟨h0,_,?_,?_,rfl,AW.aH _ _⟩⟩
  ·simp only[AW.ar];omega
  ·simp only[AW.ar];omega
def JA{α:Type}{lo z:Nat}{f:α->List ad}{W W':AW}{v:ad}{l:List α}(h:Cl lo W' z f v l)(hp:bC v=true):Cl lo W z f v l:=by
 rcases h with h|⟨h0,B,i1,i2,rfl,i4⟩
 ·exact .inl h
 ·cases hp
def WY{W:AW}{v:ad}{l:List fA}(h:Qm W v l)(hl:l.length<=10000):∃u W',bf (.func (.func 122) #[] #[]) [v] W=some (u,W')/\Le W W'/\Cl W.next W' 5 fo u l:=by
 refine KH (Q:=λu W'=>Le W W'/\Cl W.next W' 5 fo u l) ?_ jV λu W' hq _ hp=>⟨Le.refl _,JA hq.2 hp⟩
 unfold fC;obtain⟨a,c,rfl,-⟩:=id h;cases a with
 |none=>cases UH h;simp(maxDischargeDepth:=9) only[SX,MX,HX,OZ u25,Option.isNone_none];exact .inl ⟨rfl,.inl rfl⟩
 |some a=>obtain⟨u,W',k1,k2,k3⟩:=Tf alu pN Yk h (by omega) (by omega);simp(maxDischargeDepth:=9) only[SX,MX,HX,OZ u25,Option.isNone_some,adX,k1,k2,k3]
def Ur{W:AW}{v:ad}{l:List Int}(h:QC W v l)(hl:l.length<=10000):∃u W',bf (.func (.func 123) #[] #[]) [v] W=some (u,W')/\Le W W'/\Cl W.next W' 1 AS u l:=by
 refine KH (Q:=λu W'=>Le W W'/\Cl W.next W' 1 AS u l) ?_ ol λu W' hq _ hp=>⟨Le.refl _,JA hq.2 hp⟩
 unfold jL;obtain⟨a,c,rfl,-⟩:=id h;cases a with
 |none=>cases UH h;simp(maxDischargeDepth:=9) only[SX,MX,HX,OZ ab0,Option.isNone_none];exact .inl ⟨rfl,.inl rfl⟩
 |some a=>obtain⟨u,W',k1,k2,k3⟩:=Tf Pq zj Ea h (by omega) (by omega);simp(maxDischargeDepth:=9) only[SX,MX,HX,OZ ab0,Option.isNone_some,YQ,k1,k2,k3]
def amx:Tryz.prog.underlying 32=some (.slice 88):=by kernel_rfl
def am6:(Tryz.prog.info? 88).map (·.bytes)=some 24:=by kernel_rfl
def akc:kQ Tryz.prog 88=some 1:=by kernel_rfl
def aj2:iM Tryz.prog 88=some (.slice none 0 0):=by kernel_rfl
def KC(n:Nat):tZ [.slice none 0 0] n=List.replicate n (.slice none 0 0):=by
 induction n with
 |zero=>rfl
 |succ n ih=>show [.slice none 0 0]++tZ [.slice none 0 0] n=_;rw[ih,CK];rfl
def afG{n:Nat}(h:n<=10000)(W:AW):eN Tryz.prog 32 (.af (n:Int)) (.af (n:Int)) W=some (oh W.next n,W.add (.cells (List.replicate n (.slice none 0 0)))):=by
 show eN Tryz.prog 32 (.af (Int.ofNat n)) (.af (Int.ofNat n)) W=_;unfold eN;have e:=vK (z:=.slice none 0 0) (len:=n) (n:=1) rfl;have e2:(iP (.slice none 0 0) (n*1)).toList=List.replicate n (.slice none 0 0):=by rw[e];exact KC n
 have e3:(List.replicate n (Value.slice none 0 0)).all bZ=true:=by rw[<-KC];exact rJ _ _ rfl n
 simp only[amx,akc,aj2,am6];rw[e2,aq ⟨aM _,by omega,by omega,e3⟩]
def akv(W:AW)(cs:List ad)(p:Nat)(l:List Int):Prop:=∃u,cs[p]? =some u/\QC W u l
abbrev Rc(W:AW)(v:ad)(qs:List (List Int)):Prop:=Row W 1 (akv W) v qs
def Rc.mono{W W':AW}{v:ad}{qs:List (List Int)}(h:Rc W v qs)(aS:Le W W'):Rc W' v qs:=
 Row.imp h aS λcs p l ⟨u,h1,h2⟩=>⟨u,h1,h2.keep aS⟩
def Rc.get{W:AW}{v:ad}{qs:List (List Int)}(h:Rc W v qs){k:Nat}(hk:k<qs.length):∃b o u,(∀W' kk,nR 1 v (.int kk (k:Int)) W'=some (.pointer (some ⟨b,o,none⟩),W'))/\b<W.next/\QC W u qs[k]/\∀W',W'.get b=W.get b->bG (.pointer (some ⟨b,o,none⟩)) W'=some (u,W'):=by obtain⟨b,o,cs,h1,h2,h3,u,h4,h5⟩:=h.elem hk;exact⟨b,o,u,h1,h2,h5,λW' hg=>aZ (by unfold aC at h3|-;rw[hg];exact h3) h4⟩
abbrev pI(x:cK)(sv sq qq:ad):List ad:=[.af x.v.sh,.af x.v.dS,.af x.v.g9,sv,.af x.now,sq,qq]
abbrev oA(x:cK)(sv sq qq:ad):ad:=.agg #[.af x.v.sh,.af x.v.dS,.af x.v.g9,sv,.af x.now,sq,qq]
def EA(W:AW):cl Tryz.prog 34 W=some (bi W.next,W.add (.cells [.af 0,.af 0,.af 0,.slice none 0 0,.af 0,.slice none 0 0,.slice none 0 0])):=aL (by kernel_rfl) rfl
def O9(x:ad)(W:AW):fR Tryz.prog 34 x W=fd 7 x W:=by kernel_rfl
structure Cop (W0 V:AW) (sb qb:Nat) (bq:Nat->Nat) (x:cK):Prop where
 le:Le W0 V
 lo:W0.next<=sb/\sb<qb/\qb<V.next
 gs:V.get sb=some (.cells (x.st.flatMap fo))
 qx:S2 V qb bq x.qs
 nq:∀k,W0.next<=bq k/\bq k<V.next/\bq k≠sb/\bq k≠qb
section
variable {W0 W V:AW} {x:cK} {sv sq qq:ad}
def Uu{R:ah.Fr}{U:AW}{qb d n:Nat}{v1 v2:ad}{K:LT->Option (ad×AW)}{G:ad×AW->Prop}{qs:List (List Int)}(hn:qs.length=n)(hn2:n<=10000)(hq:Rc U qq qs)(hqn:qb=U.next)(hl:∀l∈qs,l.length<=10000)(hd:d<U.next)
 (r1:R 1=v1)(r2:R 2=v2)(r3:R 3=oh qb n)(Xx:R 15=qq)(XC:R 16=.af (n:Int))(T3:R 17=.af 0)
 (hK:∀R' V bq,R' 1=v1->R' 2=v2->R' 3=oh qb n->Le U V->qb<V.next->S2 V qb bq qs->(∀k,bq k=d\/(qb<bq k/\bq k<V.next))->Ok (K (.exit 0,R',V)) G):Ok (dN (ge (jX bf) R (U.add (.cells (List.replicate n (.slice none 0 0))))) K) G:=by
 subst hqn
 refine bz n (by omega) (λk R V=>Le U V/\U.next<V.next/\R 1=v1/\R 2=v2/\R 3=oh U.next n/\R 15=qq/\R 16=.af (n:Int)/\R 17=.af (k:Int)/\
  ∃qv bq,V.get U.next=some (.cells qv)/\qv.length=n/\(∀j (h:j<qs.length),j<k->∃u,qv[j]? =some u/\QX V u qs[j] (bq j))/\(∀i j (h:i<qs.length) (h':j<qs.length),i<j->j<k->qs[i]≠[]->qs[j]≠[]->bq i<bq j)/\(∀j,bq j=d\/(U.next<bq j/\bq j<V.next)))
  (λr=>r.1=.exit 0/\r.2.1 1=v1/\r.2.1 2=v2/\r.2.1 3=oh U.next n/\Le U r.2.2/\U.next<r.2.2.next/\∃bq,S2 r.2.2 U.next bq qs/\∀j,bq j=d\/(U.next<bq j/\bq j<r.2.2.next))
  ⟨(Le.refl _).add _,by rw[AW.ar];omega,r1,r2,r3,Xx,XC,T3,_,λ_=>d,AW.aH _ _,xT,λj _ h=>absurd h (by omega),λi j _ _ _ h=>absurd h (by omega),λj=>.inl rfl⟩ ?_ ?_ ?_
 ·rintro k R V hk ⟨aS,Uw,r1,r2,r3,Xx,XC,T3,qv,bq,q1,q2,q3,q4,q5⟩;unfold jX;have hkq:k<qs.length:=by omega
  have t1:decide ((k:Int)<(n:Int))=true:=dj;have t2:=λW'=>bJ W' k 1
  have e3:((k+1:Nat):Int)=(k:Int)+1:=by omega
  obtain⟨b,i,u,g1,g2,g3,g4⟩:=hq.get hkq;have lu:=g4 V (aS.get _ g2);obtain⟨u',V2,c1,c2,c3⟩:=Ur (g3.keep aS) (hl _ (ez _));have QL:k<qv.length:=by omega
  have q1':V2.get U.next=some (.cells qv):=(c2.get _ Uw).trans q1;have one:Eng.one u'=true:=by rcases c3 with⟨-,rfl|⟨a,rfl⟩⟩|⟨-,B,-,-,rfl,-⟩<;>rfl
  have sq:gv 1 (.pointer (some ⟨U.next,k,none⟩)) u' V2=some (ak,V2.put U.next (.cells (qv.set k u'))):=by rcases c3 with⟨-,rfl|⟨a,rfl⟩⟩|⟨-,B,-,-,rfl,-⟩<;>rw[mD,dJ q1',bL,aq QL]
  simp only[SX,r3,Xx,XC,T3,t1,g1,lu,c1,ixQ hk,sq,t2,ai];have O2:∀b,b≠U.next->(V2.put U.next (.cells (qv.set k u'))).get b=V2.get b:=λb hb=>AW.ay _ _ (aV hb)
  refine .inl ⟨ao,(aS.trans c2).put (aM _) _,by rw[AW.bh];have:=c2.next;omega,r1,r2,r3,Xx,XC,by rw[e3];rfl,?_⟩;obtain⟨B,hB⟩:∃B,(qs[k]=[]/\B=d)\/(qs[k]≠[]/\V.next<=B/\B<V2.next/\u'=.slice (some ⟨B,0,none⟩) qs[k].length (dY+1)/\V2.get B=some (.cells (qs[k].map (Value.int .u32)))):=by
   rcases c3 with⟨h,-⟩|⟨h,B,b1,b2,b3,b4⟩
   ·exact⟨d,.inl ⟨h,rfl⟩⟩
   ·exact⟨B,.inr ⟨h,b1,b2,b3,by rw[b4,vB]⟩⟩
  refine⟨_,λj=>if j=k then B else bq j,AW.aW _ _ _,by simp[q2],λj hj Sw=>?_,λi j hi hj hij Sw n1 n2=>?_,λj=>?_⟩
  ·by_cases Ig:k=j
   ·subst Ig;refine⟨u',vd QL,?_⟩;simp only[ba];rcases hB with⟨h,e⟩|⟨h,b1,b2,b3,b4⟩
    ·rcases c3 with⟨h',e'⟩|⟨h',-⟩
     ·exact .inl ⟨h',e'⟩
     ·exact absurd h h'
    ·exact .inr ⟨h,by rw[AW.bh];exact b2,b3,(O2 _ (by omega)).trans b4⟩
   ·obtain⟨w,w1,w2⟩:=q3 j hj (by omega);refine⟨w,by rw[xP Ig];exact w1,?_⟩;simp only[ap (aV Ig)];rcases w2.mono c2 with w2|⟨w3,w4,w5,w6⟩
    ·exact .inl w2
    ·refine .inr ⟨w3,by rw[AW.bh];exact w4,w5,(O2 _ ?_).trans w6⟩;rcases q5 j with e|e<;>omega
  ·have hik:i≠k:=by omega
   simp only[ap hik];by_cases Ig:j=k
   ·subst Ig;simp only[ba];rcases hB with⟨h,-⟩|⟨h,b1,-,-,-⟩
    ·exact absurd h n2
    ·obtain⟨w,w1,w2⟩:=q3 i hi hij;rcases w2 with⟨w2,-⟩|⟨w3,w4,w5,w6⟩
     ·exact absurd w2 n1
     ·omega
   ·simp only[ap Ig];exact q4 i j hi hj hij (by omega) n1 n2
  ·rw[AW.bh];by_cases Ig:j=k
   ·simp only[Ig,ba];rcases hB with⟨-,e⟩|⟨h,b1,b2,-,-⟩
    ·exact .inl e
    ·exact .inr ⟨by omega,b2⟩
   ·simp only[ap Ig];have:=c2.next;rcases q5 j with e|e
    ·exact .inl e
    ·exact .inr (by omega)
 ·rintro R V ⟨aS,Uw,r1,r2,r3,Xx,XC,T3,qv,bq,q1,q2,q3,q4,q5⟩;unfold jX;have t1:decide ((n:Int)<(n:Int))=false:=cN;simp only[SX,XC,T3,t1,ai];refine⟨by simp,ao,r1,r2,r3,aS,Uw,bq,⟨qv,q1,by omega,λk hk=>q3 k hk (by omega),λi j hi hj hij n1 n2=>?_⟩,q5⟩;rcases zE i j with h|h
  ·have:=q4 i j hi hj h (by omega) n1 n2;omega
  ·have:=q4 j i hj hi (by omega) (by omega) n2 n1;omega
 ·rintro⟨e,R,V⟩ ⟨rfl,a1,a2,a3,a4,a5,bq,a6,a7⟩;exact hK R V bq a1 a2 a3 a4 a5 a6 a7
def Q7(hs:Qm W sq x.st)(hq:Rc W qq x.qs)(hsv:Eng.one sv=true)(h0:x.st≠[])(hn:x.st.length<=10000)(hqn:x.qs.length<=10000)(hl:∀l∈x.qs,l.length<=10000):
 ∃V sb qb bq,bf (.func (.func 100) #[] #[]) [oA x sv sq qq] W=some (oA x sv (uu sb x.st.length) (oh qb x.qs.length),V)/\Cop W V sb qb bq x:=by
 have hq':Ok (sy bf (oA x sv sq qq) W) λr=>∃sb qb bq,r.1=oA x sv (uu sb x.st.length) (oh qb x.qs.length)/\Cop W r.2 sb qb bq x:=by
  unfold sy;obtain⟨V,hV⟩:∃V,V=(W.add (.cells (pI x sv sq qq))).add (.cells [.af 0,.af 0,.af 0,.slice none 0 0,.af 0,.slice none 0 0,.slice none 0 0]):=⟨_,rfl⟩;have aS:Le W V:=by rw[hV];exact((Le.refl W).add _).add _
  have g1:V.get W.next=some (.cells (pI x sv sq qq)):=by rw[hV];exact(AW.aD _ _ (by rw[AW.ar];omega)).trans (AW.aH _ _)
  have g2:V.get (W.next+1)=some (.cells [.af 0,.af 0,.af 0,.slice none 0 0,.af 0,.slice none 0 0,.slice none 0 0]):=by rw[hV,<-AW.ar W (.cells (pI x sv sq qq))];exact AW.aH _ _
  have nV:V.next=W.next+2:=by rw[hV];rfl
  simp only[SX,EA,AW.ar];rw[<-hV];clear hV;have l5:bG (.pointer (some ⟨W.next,5,none⟩)) V=some (sq,V):=aZ (az g1) rfl;obtain⟨u,V2,c1,c2,c3⟩:=WY (hs.keep aS) hn;rcases c3 with⟨h,-⟩|⟨-,sb,b1,b2,rfl,b4⟩
  ·exact absurd h h0
  have g1':V2.get W.next=some (.cells (pI x sv sq qq)):=(c2.get _ (by omega)).trans g1;have s5:gv 1 (.pointer (some ⟨W.next,5,none⟩)) (uu sb x.st.length) V2=some (ak,V2.put W.next (.cells (pI x sv (uu sb x.st.length) qq))):=by rw[mD,dJ g1'];rfl
  simp only[SX,aN,l5,c1,s5];obtain⟨V3,FK⟩:∃V3,V3=V2.put W.next (.cells (pI x sv (uu sb x.st.length) qq)):=⟨_,rfl⟩;have g3:V3.get W.next=some (.cells (pI x sv (uu sb x.st.length) qq)):=by rw[FK];exact AW.aW _ _ _
  have o3:∀b,b≠W.next->V3.get b=V2.get b:=λb hb=>by rw[FK];exact AW.ay _ _ (aV hb)
  have n3:V3.next=V2.next:=by rw[FK];rfl
  have Hu:Le W V3:=by rw[FK];exact(aS.trans c2).put (aM _) _
  rw[<-FK];clear FK;have l6:bG (.pointer (some ⟨W.next,6,none⟩)) V3=some (qq,V3):=aZ (az g3) rfl;have c2n:=c2.next;have abD:∀W',aR Tryz.prog .len #[32] 3 #[false] [qq] W'=some (.af (x.qs.length:Int),W'):=λW'=>(hq.len Fs) W' _ _
  have l6':∀W',W'.get W.next=V3.get W.next->bG (.pointer (some ⟨W.next,6,none⟩)) W'=some (qq,W'):=λW' h=>aZ (az (h.trans g3)) rfl
  simp only[SX,l6,abD,afG hqn,l6' _ (AW.aD V3 _ (show V3.next≠W.next by omega))];refine Uu (U:=V3) (qb:=V3.next) (d:=W.next) (n:=x.qs.length) (v1:=bi W.next) (v2:=bi (W.next+1)) rfl hqn (hq.mono Hu) rfl hl (by omega) rfl rfl rfl rfl rfl rfl ?_;intro R' V4 bq q1 q2 q3 q4 q5 q6 q7;have g4:V4.get W.next=some (.cells (pI x sv (uu sb x.st.length) qq)):=(q4.get _ (by omega)).trans g3;have s6:gv 1 (.pointer (some ⟨W.next,6,none⟩)) (oh V3.next x.qs.length) V4=some (ak,V4.put W.next (.cells (pI x sv (uu sb x.st.length) (oh V3.next x.qs.length)))):=by rw[mD,dJ g4];rfl
  have l7:fd 7 (bi W.next) (V4.put W.next (.cells (pI x sv (uu sb x.st.length) (oh V3.next x.qs.length))))=some (oA x sv (uu sb x.st.length) (oh V3.next x.qs.length),V4.put W.next (.cells (pI x sv (uu sb x.st.length) (oh V3.next x.qs.length)))):=
   bV (az (AW.aW _ _ _)) rfl
  have g5:(V4.put W.next (.cells (pI x sv (uu sb x.st.length) (oh V3.next x.qs.length)))).get (W.next+1)=some (.cells [.af 0,.af 0,.af 0,.slice none 0 0,.af 0,.slice none 0 0,.slice none 0 0]):=
   (AW.ay _ _ (by omega)).trans ((q4.get _ (by omega)).trans ((o3 _ (by omega)).trans ((c2.get _ (by omega)).trans g2)))
  have s7:=kJ (W:=V4.put W.next (.cells (pI x sv (uu sb x.st.length) (oh V3.next x.qs.length)))) (vs:=(pI x sv (uu sb x.st.length) (oh V3.next x.qs.length)).toArray) g5 (n:=7) rfl rfl (by simp[eK,hsv,gH,Ha]);obtain⟨V5,Mm⟩:∃V5,V5=(V4.put W.next (.cells (pI x sv (uu sb x.st.length) (oh V3.next x.qs.length)))).put (W.next+1) (.cells (pI x sv (uu sb x.st.length) (oh V3.next x.qs.length))):=⟨_,rfl⟩;have l8:fd 7 (bi (W.next+1)) V5=some (oA x sv (uu sb x.st.length) (oh V3.next x.qs.length),V5):=by rw[Mm];exact bV (az (AW.aW _ _ _)) rfl
  have o5:∀b,b≠W.next->b≠W.next+1->V5.get b=V4.get b:=λb h1 h2=>by rw[Mm];exact(AW.ay _ _ (aV h2)).trans (AW.ay _ _ (aV h1))
  have n5:V5.next=V4.next:=by rw[Mm];rfl
  have s7':gv 7 (bi (W.next+1)) (oA x sv (uu sb x.st.length) (oh V3.next x.qs.length)) (V4.put W.next (.cells (pI x sv (uu sb x.st.length) (oh V3.next x.qs.length))))=some (ak,V5):=by rw[Mm];exact s7
  simp only[SX,q1,q2,q3,s6,l7,s7',zD,O9,l8,bL,ai];have q4n:=q4.next;refine⟨sb,V3.next,bq,rfl,⟨⟨by omega,λb hb=>(o5 b (by omega) (by omega)).trans ((q4.get _ (by omega)).trans (Hu.get b hb))⟩,by omega,?_,?_,λk=>?_⟩⟩
  ·exact(o5 _ (by omega) (by omega)).trans ((q4.get _ (by omega)).trans ((o3 _ (by omega)).trans b4))
  ·obtain⟨qv,y1,y2,y3,y4⟩:=q6;refine⟨qv,(o5 _ (by omega) (by omega)).trans y1,y2,λk hk=>?_,y4⟩;obtain⟨w,w1,w2⟩:=y3 k hk;refine⟨w,w1,?_⟩;rcases w2 with w2|⟨w3,w4,w5,w6⟩
   ·exact .inl w2
   ·refine .inr ⟨w3,by omega,w5,(o5 _ ?_ ?_).trans w6⟩
    ·intro e;rw[e,g4]at w6;injection w6 with w6;injection w6 with w6;cases hq2:x.qs[k]with
     |nil=>exact w3 hq2
     |cons a t=>rw[hq2]at w6;simp at w6
    ·rcases q7 k with e|e<;>omega
  ·rcases q7 k with e|e<;>omega
 obtain⟨⟨v,V⟩,h1,sb,qb,bq,rfl,h2⟩:=hq';refine⟨V,sb,qb,bq,?_,h2⟩;rw[Ct h1,pC (by simp[bC,eQ,bZ])]
end
abbrev Ah(r:RunT):List ad:=[.af r.row,.af r.fi,.af r.ma]
abbrev Xp(r:RunT):ad:=.agg #[.af r.row,.af r.fi,.af r.ma]
def HH(r:RunT):(Ah r).length=3:=rfl
def Ym(r:RunT):(Ah r).all Eng.one=true:=rfl
def blC(b:Bool):List ad:=[.bool b]
def Zw(b:Bool):(blC b).length=1:=rfl
abbrev BoR(W:AW)(v:ad)(l:List Bool):Prop:=Rd W 1 blC v l
def BoR.get{W:AW}{v:ad}{l:List Bool}(h:BoR W v l){i:Nat}(hi:i<l.length):∃b o,(∀W' k,nR 1 v (.int k (i:Int)) W'=some (.pointer (some ⟨b,o,none⟩),W'))/\b<W.next/\∀W',W'.get b=W.get b->bG (.pointer (some ⟨b,o,none⟩)) W'=some (.bool l[i],W'):=by obtain⟨b,o,cs,h1,h2,h3,h4⟩:=(If Zw h).elem hi;exact⟨b,o,h1,h2,λW' hg=>aZ (by unfold aC at h3|-;rw[hg];exact h3) ((ig h4 (j:=0) (by omega)).trans rfl)⟩
def ahn:mq Tryz.prog #[219,219] 3 24=true:=by kernel_rfl
def aa3(r:RunT)(W:AW):dA Tryz.prog 219 1 [(0,Xp r)] W=some (.slice (some ⟨W.next,0,none⟩) 1 1,W.add (.cells (Ah r))):=aL (by kernel_rfl) rfl
def aaD(a b:Int)(W:AW):dX Tryz.prog 222 [(0,.af a),(1,.af b)] W=some (Xp ⟨a,b,0⟩,W):=aL (by kernel_rfl) rfl
def aai(W:AW):cl Tryz.prog 222 W=some (bi W.next,W.add (.cells (Ah ⟨0,0,0⟩))):=aL (by kernel_rfl) rfl
def acd{W:AW}{b:Nat}{r0:RunT}(h:W.get b=some (.cells (Ah r0)))(r:RunT):gv 3 (bi b) (Xp r) W=some (ak,W.put b (.cells (Ah r))):=kJ (vs:=(Ah r).toArray) h rfl rfl rfl
def xe(W1 V:AW)(rb:Nat)(out:ad)(l:List RunT)(r:RunT):Prop:=Le W1 V/\W1.next<=rb/\rb<V.next/\V.get rb=some (.cells (Ah r))/\∃bo,iR V 3 Ah out l bo/\∀B,bo=some B->W1.next<=B/\B≠rb
def xe.put{W1 V:AW}{rb:Nat}{out:ad}{l:List RunT}{r:RunT}(h:xe W1 V rb out l r)(r':RunT):xe W1 (V.put rb (.cells (Ah r'))) rb out l r':=by obtain⟨h1,h2,h3,h4,bo,h5,h6⟩:=h;exact⟨h1.put h2 _,h2,h3,AW.aW _ _ _,bo,h5.keep (aM _) λB hB=>AW.ay _ _ (aV (h6 B hB).2),h6⟩
def xe.push{W1 V:AW}{rb:Nat}{out:ad}{l:List RunT}{r:RunT}(h:xe W1 V rb out l r)(hl:l.length<=100000):∃qZ V',dB Tryz.prog (V.add (.cells (Ah r))) #[219,219] out (.slice (some ⟨V.next,0,none⟩) 1 1)=some (qZ,V')/\xe W1 V' rb qZ (l++[r]) r:=by
 obtain⟨h1,h2,h3,h4,bo,h5,h6⟩:=h;have h5':=h5.keep (W':=V.add (.cells (Ah r))) (by rw[AW.ar];omega) λB hB=>AW.aD _ _ (by have:=h5.lt hB;omega)
 obtain⟨qZ,V',k1,k2,k3,k4⟩:=h5'.push ahn HH Ym (b:=V.next) (c:=1) bU (by omega) (by omega);refine⟨qZ,V',k1,⟨by rw[k3,AW.ar];have:=h1.next;omega,λb hb=>?_⟩,h2,by rw[k3,AW.ar];omega,?_,_,k2,λB hB=>?_⟩
 ·have:=h1.next;exact(k4 b (by rw[AW.ar];omega) (λe=>by have:=(h6 b e).1;omega)).trans ((AW.aD _ _ (by omega)).trans (h1.get b hb))
 ·exact(k4 rb (by rw[AW.ar];omega) (λe=>(h6 rb e).2 rfl)).trans ((AW.aD _ _ (by omega)).trans h4)
 ·injection hB with hB;rw[AW.ar]at hB;have:=h1.next;exact⟨by omega,by omega⟩
def IP{r:Int}:∀(l:List Bool) (s c m:Int),(yy r s l c m).length<=l.length+1
 |[],s,c,m=>by simp only[yy];split<;>simp
 |true::l,s,c,m=>by simp only[yy,cG];have:=IP (r:=r) l (s+1) c (m+1);omega
 |false::l,s,c,m=>by simp only[yy,cT,cG];have:=IP (r:=r) l (s+1) (s+1) 0;split<;>simp<;>omega
def Nk{R:ah.Fr}{W1 U:AW}{fv ah3 v3 v27 v28 v29:ad}{free:List Bool}{rb f m:Nat}{row:Int}{l0:List RunT}{K:LT->Option LT}{G:LT->Prop}(hf:BoR W1 fv free)(hm:m<=10000)(hfm:f+m<=free.length)(IX:free.length<=10000)(Mg:l0.length<=50000)
 (hI:xe W1 U rb ah3 l0 ⟨row,f,0⟩)(r1:R 1=fv)(r7:R 7=ah3)(r8:R 8=.af (f:Int))(qR:R 11=.af row)(NA:R 12=.af (m:Int))(Rm:R 13=bi rb)(MD:R 14=.af (f:Int))(r3:R 3=v3)(RJ:R 27=v27)(Pr:R 28=v28)(Pu:R 29=v29)
 (hK:∀R' V out,R' 1=fv->R' 7=out->R' 8=.af (f:Int)->R' 12=.af (m:Int)->R' 3=v3->R' 27=v27->R' 28=v28->R' 29=v29->(∃r,xe W1 V rb out (l0++yy row f (DI free f m) f 0) r)->Ok (K (.exit 2,R',V)) G):
 Ok (dN (ge (fV bf) R U) K) G:=by
 have hrl:(DI free f m).length=m:=by unfold DI;rw[fu,qA];omega
 refine bz (m+1) (by omega) (λj R V=>R 1=fv/\R 8=.af (f:Int)/\R 11=.af row/\R 12=.af (m:Int)/\R 13=bi rb/\R 14=.af ((f+j:Nat):Int)/\R 3=v3/\R 27=v27/\R 28=v28/\R 29=v29/\
  ∃l c k,xe W1 V rb (R 7) l ⟨row,c,k⟩/\0<=k/\k<=j/\l.length<=50000+j/\(j<=m->l++yy row (f+j) ((DI free f m).drop j) c k=l0++yy row f (DI free f m) f 0)/\(m<j->l=l0++yy row f (DI free f m) f 0))
  (λr=>r.1=.exit 2/\r.2.1 1=fv/\r.2.1 8=.af (f:Int)/\r.2.1 12=.af (m:Int)/\r.2.1 3=v3/\r.2.1 27=v27/\r.2.1 28=v28/\r.2.1 29=v29/\∃x,xe W1 r.2.2 rb (r.2.1 7) (l0++yy row f (DI free f m) f 0) x)
  ⟨r1,r8,qR,NA,Rm,by rw[MD];rfl,r3,RJ,Pr,Pu,l0,f,0,by rw[r7];exact hI,by omega,by omega,by omega,λ_=>by simp,λh=>by omega⟩ ?_ ?_ ?_
 ·rintro j R V hj ⟨r1,r8,qR,NA,Rm,MD,r3,RJ,Pr,Pu,l,c,k,hI,k0,kj,Z6,e1,-⟩;unfold fV;have e1:=e1 (by omega);have Ny:=hI;obtain⟨i1,i2,i3,i4,bo,i5,i6⟩:=hI;have a1:=λW'=>jT W' f m
  have a2:=λW'=>bJ W' ((f+j:Nat):Int) 1
  have a3:=λW'=>bJ W' k 1
  have d1:decide (((f+j:Nat):Int)<=(f:Int)+m)=true:=dj;have l2:bG (.pointer (some ⟨rb,2,none⟩)) V=some (.af k,V):=aZ (az i4) rfl;have e14:((f+j:Nat):Int)+1=((f+(j+1):Nat):Int):=by omega
  have tail:∀(l':List RunT) (JR:Nat->ad) (V':AW) (r':RunT),xe W1 V' rb (JR 7) l' r'->l'.length<=50000+(j+1)->JR 1=fv->JR 8=.af (f:Int)->JR 11=.af row->JR 12=.af (m:Int)->JR 13=bi rb->JR 3=v3->JR 27=v27->JR 28=v28->JR 29=v29->
   (j+1<=m->l'++yy row (f+(j+1:Nat)) ((DI free f m).drop (j+1)) (f+(j+1:Nat)) 0=l0++yy row f (DI free f m) f 0)->(m<j+1->l'=l0++yy row f (DI free f m) f 0)->
   Ok (eS bf JR (.af row) (bi rb) (.af ((f+j:Nat):Int)) V') λr=>(r.1=.normal/\(r.2.1 1=fv/\r.2.1 8=.af (f:Int)/\r.2.1 11=.af row/\r.2.1 12=.af (m:Int)/\r.2.1 13=bi rb/\r.2.1 14=.af ((f+(j+1):Nat):Int)/\r.2.1 3=v3/\r.2.1 27=v27/\r.2.1 28=v28/\r.2.1 29=v29/\
    ∃l c k,xe W1 r.2.2 rb (r.2.1 7) l ⟨row,c,k⟩/\0<=k/\k<=((j+1:Nat):Int)/\l.length<=50000+(j+1)/\(j+1<=m->l++yy row (f+(j+1:Nat)) ((DI free f m).drop (j+1)) c k=l0++yy row f (DI free f m) f 0)/\(m<j+1->l=l0++yy row f (DI free f m) f 0)))\/(r.1≠ .normal/\(r.1=.exit 2/\r.2.1 1=fv/\r.2.1 8=.af (f:Int)/\r.2.1 12=.af (m:Int)/\r.2.1 3=v3/\r.2.1 27=v27/\r.2.1 28=v28/\r.2.1 29=v29/\∃x,xe W1 r.2.2 rb (r.2.1 7) (l0++yy row f (DI free f m) f 0) x)):=by
   intro l' JR V' r' hR B6 j1 j8 j11 j12 j13 j3 j27 j28 j29 h1 h2;unfold eS;simp only[SX,a2,aaD,acd hR.2.2.2.1,ai];refine .inl ⟨ao,j1,j8,j11,j12,j13,by rw[<-e14];rfl,j3,j27,j28,j29,l',((f+j:Nat):Int)+1,0,hR.put _,by omega,by omega,B6,λh=>?_,h2⟩;rw[<-h1 h];congr 2<;>omega
  by_cases cj:j<m
  ·have d2:decide (((f+j:Nat):Int)<(f:Int)+m)=true:=dj;obtain⟨b,o,g1,g2,g3⟩:=hf.get (i:=f+j) (by omega);have ld:=g3 V (i1.get _ g2);have hd:(DI free f m).drop j=free[f+j]'(by omega)::(DI free f m).drop (j+1):=by rw[ss (by omega)];congr 1;unfold DI;rw[List.getElem_take,List.getElem_drop]
   rw[hd]at e1;cases hb:free[f+j]'(by omega)
   ·rw[hb]at e1 ld;simp only[yy]at e1;by_cases c0:0<k
    ·rw[aq c0]at e1;have d3:=be c0;obtain⟨qZ,V',p1,p2⟩:=Ny.push (by omega);have la:fd 3 (bi rb) V=some (Xp ⟨row,c,k⟩,V):=bV (az i4) rfl;simp only[SX,r1,r8,qR,NA,Rm,MD,aN,a1,d1,d2,g1,ld,l2,d3,la,aa3,p1];exact tail _ _ _ _ p2 (by simp;omega) r1 r8 qR NA Rm r3 RJ Pr Pu (λh=>by rw[<-e1,mA];congr 3<;>omega) (λh=>by omega)
    ·rw[ap c0]at e1;have d3:=bm c0;simp only[SX,r1,r8,qR,NA,Rm,MD,aN,a1,d1,d2,g1,ld,l2,d3];exact tail _ _ _ _ Ny (by omega) r1 r8 qR NA Rm r3 RJ Pr Pu (λh=>by rw[<-e1,lM];congr 2<;>omega) (λh=>by omega)
   ·rw[hb]at e1 ld;simp only[yy]at e1;have s2:gv 1 (.pointer (some ⟨rb,2,none⟩)) (.af (k+1)) V=some (ak,V.put rb (.cells (Ah ⟨row,c,k+1⟩))):=by rw[zl,dJ i4];rfl
    simp only[SX,r1,r8,qR,NA,Rm,MD,aN,a1,a2,a3,d1,d2,g1,ld,l2,s2,ai];refine .inl ⟨ao,r1,r8,qR,NA,Rm,by rw[<-e14];rfl,r3,RJ,Pr,Pu,l,c,k+1,Ny.put _,by omega,by omega,by omega,λh=>?_,λh=>by omega⟩;rw[<-e1];congr 2<;>omega
  ·obtain rfl:j=m:=by omega
   have d2:decide (((f+j:Nat):Int)<(f:Int)+j)=false:=cN;rw[Ih (by omega)]at e1;simp only[yy]at e1;by_cases c0:0<k
   ·rw[aq c0]at e1;have d3:=be c0;obtain⟨qZ,V',p1,p2⟩:=Ny.push (by omega);have la:fd 3 (bi rb) V=some (Xp ⟨row,c,k⟩,V):=bV (az i4) rfl;simp only[SX,r1,r8,qR,NA,Rm,MD,aN,a1,d1,d2,l2,d3,la,aa3,p1];exact tail _ _ _ _ p2 (by simp;omega) r1 r8 qR NA Rm r3 RJ Pr Pu (λh=>by omega) (λh=>e1)
   ·rw[ap c0,iD]at e1;have d3:=bm c0;simp only[SX,r1,r8,qR,NA,Rm,MD,aN,a1,d1,d2,l2,d3];exact tail _ _ _ _ Ny (by omega) r1 r8 qR NA Rm r3 RJ Pr Pu (λh=>by omega) (λh=>e1)
 ·rintro R V ⟨r1,r8,qR,NA,Rm,MD,r3,RJ,Pr,Pu,l,c,k,hI,k0,kj,Z6,-,e2⟩;unfold fV;have a1:=λW'=>jT W' f m
  have d1:decide (((f+(m+1):Nat):Int)<=(f:Int)+m)=false:=cN;simp only[SX,r8,NA,MD,a1,d1,ai];rw[e2 (by omega)]at hI;exact⟨by simp,ao,r1,r8,NA,r3,RJ,Pr,Pu,_,hI⟩
 ·rintro⟨e,R,V⟩ ⟨rfl,h1,h2,h3,h4,h5,h6,h7,h8⟩;exact hK R V _ h1 rfl h2 h3 h4 h5 h6 h7 h8
def Dc(v:fc)(k:Nat):List Nat:=((v.aA[k]?).map (·.rows)).getD []|>.map Int.toNat
def Ju(v:fc)(k:Nat):Nat:=(bO (v.aA.take k)).toNat
def qf(v:fc)(k:Nat)(free:List Bool):List RunT:=Ba free 0 (Ju v k) (Dc v k)
def iG(l:List Nat):Nat:=l.foldr (· + ·) 0
def Hj(l:List Bool):∀(ms:List Nat) (r f m:Nat),Ba l r f (ms++[m])=Ba l r f ms++yy ((r+ms.length:Nat):Int) ((f+iG ms:Nat):Int) (DI l (f+iG ms) m) ((f+iG ms:Nat):Int) 0
 |[],r,f,m=>by simp[Ba,iG]
 |a::ms,r,f,m=>by simp only[vR,Ba];rw[Hj l ms (r+1) (f+a) m,mA];have e:iG (a::ms)=a+iG ms:=rfl;rw[e,cG,show r+1+ms.length=r+(ms.length+1)by omega,i9 f a]
def DF{l:List kh}{i k:Nat}{rows:List Int}{r:ir}(h:r∈qN l i rows k):r.sec=i:=by unfold qN at h;obtain⟨j,-,rfl⟩:=mE.1 h;rfl
def EN{l:List kh}(i:Nat):∀{n:Nat},n<=l.length->(nP l n).filter (fQ (i:Int))=if h:i<n then qN l i (l.getD i ⟨[],[],0⟩).rows (l.getD i ⟨[],[],0⟩).rows.length else []
 |0,_=>by simp[nP]
 |n+1,hn=>by
  have Fw:n<l.length:=by omega
  rw[ko l Fw,Av,EN i (by omega)];by_cases h:i<n
  ·rw[dif_pos h,dif_pos (by omega)];rw[List.filter_eq_nil_iff.2,iD];intro x hx;have h1:=DF hx;simp only[fQ,gG];omega
  ·rw[dif_neg h,lM];by_cases h2:i=n
   ·subst h2;rw[dif_pos (by omega),List.filter_eq_self.2,lh,bS Fw,nA];intro x hx;have h1:=DF hx;simp only[fQ,gG];omega
   ·rw[dif_neg (by omega),List.filter_eq_nil_iff.2];intro x hx;have h1:=DF hx;simp only[fQ,gG];omega
def ET:∀(l:List Int),(∀n∈l,1<=n)->(iG (l.map Int.toNat):Int)=ij l
 |[],_=>rfl
 |a::l,h=>by have ih:=ET l (λn hn=>h n (by simp[hn]));have h1:=h a (by simp);have e:iG ((a::l).map Int.toNat)=a.toNat+iG (l.map Int.toNat):=rfl;have e2:ij (a::l)=a+ij l:=rfl;omega
def Dr{l:List kh}{k:Nat}(hk:k<l.length):bO (l.take (k+1))=bO (l.take k)+ij l[k].rows:=by unfold bO;rw[lW hk,qI,kg,li,KB]
def N4{v:fc}(he:(fp v).2=0){k:Nat}(hk:k<v.aA.length):(ofE v k).1=(Ju v k:Int)/\Dc v k=v.aA[k].rows.map Int.toNat/\(∀n∈v.aA[k].rows,1<=n/\n<=64)/\v.aA[k].rows.length<=16/\(Ju v k:Int)+ij v.aA[k].rows<=bO v.aA/\bO v.aA<=4096/\0<=ij v.aA[k].rows/\0<ij v.aA[k].rows:=by
 obtain⟨hg,-,-,hb,ht,-⟩:=df he;obtain⟨r1,r2,r3⟩:=hg.rows _ (ez hk);have ee:v.aA[k].rows≠[]:=by intro e;rw[e]at r1;simp at r1
 have hms:Dc v k=v.aA[k].rows.map Int.toNat:=by unfold Dc;rw[bS hk];rfl
 have aly:dg (qN v.aA k v.aA[k].rows v.aA[k].rows.length)=ij v.aA[k].rows:=by rw[zp _ _ _ (aM _),cY]
 have hN:=ET v.aA[k].rows (λn hn=>(r3 n hn).1);have uj:0<ij v.aA[k].rows:=by
  cases hr:v.aA[k].rows with
  |nil=>exact absurd hr ee
  |cons a t=>rw[hr]at r3 hN;have:=(r3 a (by simp)).1;have e:iG ((a::t).map Int.toNat)=a.toNat+iG (t.map Int.toNat):=rfl;omega
 have mono:∀{a b:Nat},a<=b->b<=v.aA.length->bO (v.aA.take a)<=bO (v.aA.take b):=by
  intro a b Uk hb;induction b with
  |zero=>obtain rfl:a=0:=by omega
         exact oe _
  |succ b ih=>
   by_cases e:a=b+1
   ·subst e;exact oe _
   ·have h1:=ih (by omega) (by omega);have h2:=Dr (l:=v.aA) (k:=b) (by omega);obtain⟨-,-,r3'⟩:=hg.rows _ (ez (show b<v.aA.length by omega));have h3:=ET v.aA[b].rows (λn hn=>(r3' n hn).1);omega
 have h0:0<=bO (v.aA.take k):=by have:=mono (mP k) (by omega);rwa [qJ]at this
 have hf:(Ju v k:Int)=bO (v.aA.take k):=by unfold Ju;omega
 have aS:=mono (a:=k+1) (b:=v.aA.length) (by omega) (aM _);rw[Dr hk,cY]at aS;have X5:(dQ v.aA).filter (fQ (k:Int))=qN v.aA k v.aA[k].rows v.aA[k].rows.length:=by unfold dQ;rw[EN k (aM _),dif_pos hk,lh,bS hk,nA]
 have yG:(ofE v k).1=bO (v.aA.take k):=by
  unfold ofE;rw[aq he,X5,aly,bK];show K3 (qN v.aA k v.aA[k].rows v.aA[k].rows.length)=_;cases hr:v.aA[k].rows with
  |nil=>exact absurd hr ee
  |cons a t=>unfold qN;rw[cG,List.range_succ_eq_map,kg];simp[K3,ij]
 exact⟨by rw[yG,hf],hms,r3,r2,by omega,ht,by omega,uj⟩
def Qj(W1 V:AW)(out:ad)(l:List RunT):Prop:=Le W1 V/\∃bo,iR V 3 Ah out l bo/\∀B,bo=some B->W1.next<=B
def xe.o{W1 V:AW}{rb:Nat}{out:ad}{l:List RunT}{r:RunT}(h:xe W1 V rb out l r):Qj W1 V out l:=⟨h.1,let⟨bo,h5,h6⟩:=h.2.2.2.2;⟨bo,h5,λB hB=>(h6 B hB).1⟩⟩
def Qj.box{W1 V:AW}{out:ad}{l:List RunT}(h:Qj W1 V out l)(r:RunT):xe W1 (V.add (.cells (Ah r))) V.next out l r:=by obtain⟨h1,bo,h2,h3⟩:=h;refine⟨h1.add _,h1.next,by rw[AW.ar];omega,AW.aH _ _,bo,h2.keep (by rw[AW.ar];omega) λB hB=>AW.aD _ _ (by have:=h2.lt hB;omega),λB hB=>⟨h3 B hB,by have:=h2.lt hB;omega⟩⟩
abbrev RnR(W:AW)(v:ad)(l:List RunT):Prop:=Rd W 3 Ah v l
def E8(l:List Bool):∀(ms:List Nat) (r f:Nat),(∀m∈ms,m<=64)->(Ba l r f ms).length<=65*ms.length
 |[],r,f,_=>by simp[Ba]
 |m::t,r,f,h=>by simp only[Ba,cT,cG];have h1:=IP (r:=r) (DI l f m) f f 0;have h2:=VD l f m;have h3:=h m (by simp);have h4:=E8 l t (r+1) (f+m) (λm hm=>h m (by simp[hm]));omega
def XF{W:AW}{v:fc}{sv fv:ad}{free:List Bool}{k:Nat}(hs:iO W sv v.aA)(he:(fp v).2=0)(hv:v.aA.length<1000)(hk:k<v.aA.length)(hf:BoR W fv free)(IX:(free.length:Int)=bO v.aA):
 ∃u W',bf (.func (.func 192) #[] #[]) [kP v sv,fv,.af (k:Int)] W=some (u,W')/\Le W W'/\RnR W' u (qf v k free):=by
 refine KH (Q:=λu W'=>Le W W'/\RnR W' u (qf v k free)) ?_ Bm λu W' hq _ hp=>⟨Le.refl _,?_⟩
 case refine_2=>
  obtain⟨a,c,rfl,h⟩:=hq.2;rcases h with h|⟨b,o,cs,rfl,-⟩
  ·exact⟨a,c,rfl,.inl h⟩
  ·cases hp
 unfold xz;obtain⟨s1,s2,s3,s4,s5,s6,s7,s8⟩:=N4 he hk;obtain⟨W1,hB,aS,hn,c4,c0,c3⟩:=vD v sv W;obtain⟨b,i,rv,g1,g2,-,-,g4,-⟩:=jD.get hs.1 hk;have yG:=ahb (W:=W1) (sec:=(k:Int)) (hs.mono aS) hv;simp only[SX,hB,aN,c4 _ (Le.refl _),yG,c3 _ (Le.refl _),g1,g4 _ aS,g2.len OX];have afk:qf v k free=Ba free 0 (Ju v k) ((Dc v k).take v.aA[k].rows.length):=by unfold qf;rw[ve (by rw[s2,gV];exact aM _)]
 rw[s1];have hW1:=aS;have akX:∀j,j<=v.aA[k].rows.length->((Ju v k+iG ((Dc v k).take j):Nat):Int)<=free.length:=λj hj=>by
  have e:iG ((Dc v k).take j)<=iG (Dc v k):=by
   have:∀(l:List Nat) (j:Nat),iG (l.take j)<=iG l:=by
    intro l;induction l with
    |nil=>intro j;simp
    |cons a l ih=>
     intro j;cases j with
     |zero=>simp[iG]
     |succ j=>have:=ih j;have e1:iG ((a::l).take (j+1))=a+iG (l.take j):=rfl;have e2:iG (a::l)=a+iG l:=rfl;omega
   exact this _ _
  have e2:=ET v.aA[k].rows (λn hn=>(s3 n hn).1);rw[<-s2]at e2;omega
 refine bz v.aA[k].rows.length (by omega) (λj R V=>R 1=fv/\R 3=bi W.next/\R 8=.af ((Ju v k+iG ((Dc v k).take j):Nat):Int)/\R 27=rv/\R 28=.af (v.aA[k].rows.length:Int)/\R 29=.af (j:Int)/\Qj W1 V (R 7) (Ba free 0 (Ju v k) ((Dc v k).take j)))
  (λr=>r.1=.exit 0/\Qj W1 r.2.2 (r.2.1 7) (qf v k free)) ⟨rfl,rfl,rfl,rfl,rfl,rfl,⟨Le.refl _,none,.inl ⟨rfl,rfl,rfl⟩,λB hB=>by cases hB⟩⟩ ?_ ?_ ?_
 ·rintro j R V hj ⟨r1,r3,r8,RJ,Pr,Pu,hO⟩;unfold mG;obtain⟨p,p1,p2⟩:=g2.get hj;have t1:decide ((j:Int)<(v.aA[k].rows.length:Int))=true:=dj;have t2:=λW'=>bJ W' j 1
  have e3:((j+1:Nat):Int)=(j:Int)+1:=by omega
  have hr:=s3 _ (ez hj);have hm:(v.aA[k].rows[j]:Int)=((v.aA[k].rows[j].toNat:Nat):Int):=by omega
  have hjm:j<(Dc v k).length:=by rw[s2,gV];exact hj
  have emj:(Dc v k)[j]=v.aA[k].rows[j].toNat:=by simp[s2]
  have YN:(Dc v k).take (j+1)=(Dc v k).take j++[v.aA[k].rows[j].toNat]:=by rw[lW hjm,emj]
  have esn:∀(l:List Nat) (m:Nat),iG (l++[m])=iG l+m:=by
   intro l m;induction l with
   |nil=>simp[iG]
   |cons a l ih=>have e1:iG (a::l++[m])=a+iG (l++[m]):=rfl;have e2:iG (a::l)=a+iG l:=rfl;omega
  have nh:=hO.1;have ak8:=hO.box ⟨(j:Int),((Ju v k+iG ((Dc v k).take j):Nat):Int),0⟩;have PO:gv 3 (bi V.next) (Xp ⟨(j:Int),((Ju v k+iG ((Dc v k).take j):Nat):Int),0⟩) (V.add (.cells (Ah ⟨0,0,0⟩)))=some (ak,V.add (.cells (Ah ⟨(j:Int),((Ju v k+iG ((Dc v k).take j):Nat):Int),0⟩))):=by rw[acd (AW.aH _ _),jl]
  simp only[SX,r8,RJ,Pr,Pu,t1,p1,p2 _ (aS.trans nh),aaD,aai,PO];have tI:=akX (j+1) hj;rw[YN,esn]at tI;refine Nk (W1:=W1) (fv:=fv) (v3:=bi W.next) (v27:=rv) (v28:=.af (v.aA[k].rows.length:Int)) (v29:=.af (j:Int)) (free:=free) (rb:=V.next) (f:=Ju v k+iG ((Dc v k).take j)) (m:=v.aA[k].rows[j].toNat) (row:=(j:Int)) (hf.keep aS) (by omega) (by omega) (by omega) (by
   have h1:=E8 free ((Dc v k).take j) 0 (Ju v k) (λm hm=>by have:=List.mem_of_mem_take hm;rw[s2]at this;obtain⟨n,hn,rfl⟩:=mE.1 this;have:=(s3 n hn).2;omega);have h2:((Dc v k).take j).length<=j:=by rw[fu];omega
   omega) ak8 r1 rfl r8 rfl (by rw[<-hm];rfl) rfl (by rw[<-r8];rfl) r3 RJ Pr Pu ?_;intro R' V' out q1 q7 q8 q12 q3 q27 q28 q29 ⟨r,hI⟩;have t3:=λW'=>jT W' ((Ju v k+iG ((Dc v k).take j):Nat):Int) ((v.aA[k].rows[j].toNat:Nat):Int)
  simp only[SX,q8,q12,q29,t3,t2,ai];refine .inl ⟨ao,q1,q3,?_,q27,q28,by rw[e3];rfl,?_⟩
  ·rw[YN,esn];show Value.int .i64 _=Value.int .i64 _;congr 1;omega
  ·show Qj W1 V' (R' 7) _;rw[q7,YN,Hj,fu,nZ (by omega),aN];exact hI.o
 ·rintro R V ⟨r1,r3,r8,RJ,Pr,Pu,hO⟩;unfold mG;have t1:decide ((v.aA[k].rows.length:Int)<(v.aA[k].rows.length:Int))=false:=cN;simp only[SX,Pr,Pu,t1,ai];rw[<-afk]at hO;exact⟨by simp,ao,hO⟩
 ·rintro⟨e,R,V⟩ ⟨rfl,h1,bo,h2,h3⟩;simp only[SX,ai];exact⟨aS.trans h1,(h2.js.el).rd HH⟩
def StE(lo:Nat)(V:AW)(tb mb:Nat)(v:fc)(sv ev:ad)(s:TL):Prop:=∃ov pv bo bp,V.get tb=some (.cells (PV v sv ev ov pv))/\iR V 25 iz ov s.ops bo/\iR V 1 oY pv s.Fy bp/\(∀B,bo=some B->lo<=B/\bp≠some B)/\(∀B,bp=some B->lo<=B)/\sH V mb (λt=>(s.busy t).map (.af ·)) s.sP
def akI{W:AW}{mb n:Nat}{m:Int->Option ad}(h:sH W mb m n)(k:Int):∃W',aR Tryz.prog .delete #[112,3] 0 #[false,false] [.map (some mb),.af k] W=some (.tuple #[],W')/\sH W' mb (λx=>if x=k then none else m x) (if(m k).isSome then n-1 else n)/\W'.next=W.next/\∀b,b≠mb->W'.get b=W.get b:=by obtain⟨es,c,d1,d2⟩:=VP h We ty3 [3] k;refine⟨_,?_,d2,AW.bh _ _ _,λb hb=>AW.ay _ _ (aV hb)⟩;show(qc Tryz.prog W #[112,3] (.map (some mb)) (.af k)).map _=_;have:(#[112,3]:Array ae)=(112::[3]).toArray:=rfl;rw[this,d1];rfl
def alx{W:AW}{mb n:Nat}{m:Int->Option ad}(h:sH W mb m n)(k:Int)(v:ad):∃W',ii Tryz.prog 112 (.map (some mb)) (.af k) v W=some (ak,W')/\sH W' mb (λx=>if x=k then some v else m x) (if(m k).isSome then n else n+1)/\W'.next=W.next/\∀b,b≠mb->W'.get b=W.get b:=by obtain⟨es,c,d1,d2⟩:=JN h We ty3 k v;exact⟨_,d1,d2,AW.bh _ _ _,λb hb=>AW.ay _ _ (aV hb)⟩
section
variable {W V:AW} {v:fc} {sv ev:ad} {l:List fF} {tb mb i:Nat} {s:TL} {x:fF} {R:Nat->ad}
abbrev RdR(R:Nat->ad)(ev:ad)(n tb mb i:Nat):Prop:=R 32=ev/\R 33=.af (n:Int)/\R 34=.af (i:Int)/\R 7=.pointer (some ⟨tb,0,none⟩)/\R 8=.map (some mb)
abbrev RdQ(W:AW)(lo:Nat)(v:fc)(sv ev:ad)(l:List fF)(tb mb:Nat)(r:LT):Prop:=
 Le W r.2.2/\((r.1=.exit 0/\mb<r.2.2.next/\r.2.1 7=.pointer (some ⟨tb,0,none⟩)/\∃s,qH l l.length s/\StE lo r.2.2 tb mb v sv ev s)\/(r.1=.ret/\∃(k:Nat) (s:TL) (x:fF),qH l k s/\l[k]? =some x/\dR s x≠0/\r.2.1 2=.pointer none/\r.2.1 3=.af (k:Int)/\r.2.1 4=.af (dR s x)))
open Classical in
def P4(hG:GW W)(aS:Le W V)(hev:RV W ev l)(hl:l.length<=400)(hW:W.next<=tb)(htm:tb<mb)(MI:mb<V.next)(hs:qH l i s)(hx:l[i]? =some x)(hR:RdR R ev l.length tb mb i)(hS:StE (mb+1) V tb mb v sv ev s):
 Ok (jY bf R V) λr=>(r.1=.normal/\Le W r.2.2/\mb<r.2.2.next/\RdR r.2.1 ev l.length tb mb (i+1)/\∃s,qH l (i+1) s/\StE (mb+1) r.2.2 tb mb v sv ev s)\/(r.1≠ .normal/\RdQ W (mb+1) v sv ev l tb mb r):=by
 obtain⟨r32,r33,TP,r7,r8⟩:=hR;obtain⟨hi,hxe⟩:=cn.1 hx;have h1:=hev.mono aS;unfold jY;obtain⟨b,o,i1,i2,i3⟩:=RV.get h1 hi;obtain⟨fa,-⟩:=i3 V rfl;rw[hxe]at fa;obtain⟨V1,V2,a1,a2,l2,n2,x2⟩:=agy x V;have I:=hs.inv;have t1:((i:Int)<(l.length:Int)):=by omega
 have t2:=λW'=>bJ W' i 1
 have e3:((i+1:Nat):Int)=(i:Int)+1:=by omega
 have nh:=aS.trans l2;have Fz:=Ji x2;have OW:=WH x2;have arf:s.sP<1000->True:=λ_=>trivial
 have bad:∀{e:Int} {R':Nat->ad},dR s x=e->e≠0->R' 2=.pointer none->R' 3=.af (i:Int)->R' 4=.af e->RdQ W (mb+1) v sv ev l tb mb (.ret,R',V2):=λhe h0 q2 q3 q4=>⟨nh,.inr ⟨rfl,i,s,x,hs,hx,by rw[he];exact h0,q2,q3,by rw[he];exact q4⟩⟩
 by_cases c1:x.th<1
 ·have e7:dR s x=7:=by unfold dR;rw[aq (.inl c1)]
  simp only[↓PX,SX,r32,r33,TP,t1,i1,fa,a1,a2,aN,Fz,c1,ai];exact .inr ⟨by simp,bad e7 (by decide) rfl rfl rfl⟩
 by_cases c2:64<x.th
 ·have e7:dR s x=7:=by unfold dR;rw[aq (.inr c2)]
  simp only[↓PX,SX,r32,r33,TP,t1,i1,fa,a1,a2,aN,Fz,c1,c2,ai];exact .inr ⟨by simp,bad e7 (by decide) rfl rfl rfl⟩
 have cc:¬(x.th<1\/64<x.th):=by omega
 simp only[↓PX,SX,r32,r33,TP,t1,i1,fa,a1,a2,aN,Fz,c1,c2];obtain⟨ov,pv,bo,bp,z1,z2,z3,s4,s5,z6⟩:=hS;have s1:=(l2.get tb (by omega)).trans z1;have s2:iR V2 25 iz ov s.ops bo:=z2.keep (by omega) λB hB=>l2.get B (z2.lt hB)
 have s3:iR V2 1 oY pv s.Fy bp:=z3.keep (by omega) λB hB=>l2.get B (z3.lt hB)
 have s6:=z6.keep (l2.get mb MI);have mg:=P2 s6 We ty3 tz3 x.th;cases hr:x.ret with
 |true=>
  have Ck:=Dj x2;rw[hr]at Ck;cases hb:s.busy x.th with
  |none=>
   have e6:dR s x=6:=by unfold dR;rw[ap cc,aq hr,ap (by rw[hb];simp)]
   rw[hb]at mg;simp only[Option.map_none,Option.getD_none,ql]at mg;simp only[SX,r7,r8,Fz,mg,Ck,ai];exact .inr ⟨by simp,bad e6 (by decide) rfl rfl rfl⟩
  |some id'=>
   rw[hb]at mg;simp only[cF,nA,wL]at mg;by_cases d1:id'=x.id;case neg=>
    have e6:dR s x=6:=by unfold dR;rw[ap cc,aq hr,ap (λh=>d1 (by have:=hb.symm.trans h.1;injection this))]
    have d1':decide (id'=x.id)=false:=bm d1;simp only[SX,r7,r8,Fz,mg,Ck,OW,d1',ai];exact .inr ⟨by simp,bad e6 (by decide) rfl rfl rfl⟩
   subst d1;have d1':decide (x.id=x.id)=true:=be rfl;have nq:=aiV x.op op0 false false V2;by_cases d2:x.op=op0;case neg=>
    rw[bm d2]at nq;have e6:dR s x=6:=by unfold dR;rw[ap cc,aq hr,ap (λh=>d2 h.2)]
    simp only[SX,r7,r8,Fz,mg,Ck,OW,Fc x2,aag,nq,ai];exact .inr ⟨by simp,bad e6 (by decide) rfl rfl rfl⟩
   rw[be d2]at nq;have he:dR s x=0:=by unfold dR;rw[ap cc,aq hr,aq ⟨hb,d2⟩]
   obtain⟨j,o0,g0,gid,gth,gto⟩:=(I.bsy _ _).1 hb;have hj:=(cn.1 g0).1;have qQ:=I.opk;have t3:∀W',bs Tryz.prog .sub 3 false true (.af x.id) (.af 1) W'=some (.af (j:Int),W'):=λW'=>by rw[vl (by omega) (by omega),show x.id-1=(j:Int)by omega]
   have bpt:bp≠some tb:=λe=>by have:=s5 tb e;omega
   obtain⟨V3,m1,m2,m3,m4⟩:=akI s6 x.th;simp only[hb,cF,wL,ba]at m2;have x3:V3.get V.next=some (.cells (jJ x)):=(m4 _ (by omega)).trans x2;have u1:=(m4 tb (by omega)).trans s1;have u2:iR V3 25 iz ov s.ops bo:=s2.keep (by omega) λB hB=>m4 B (by have:=(s4 B hB).1;omega)
   have u3:iR V3 1 oY pv s.Fy bp:=s3.keep (by omega) λB hB=>m4 B (by have:=s5 B hB;omega)
   have c53:bG (.pointer (some ⟨tb,5,none⟩)) V3=some (ov,V3):=xi u1 rfl;obtain⟨B,cs,hbo,hB,ix,st1,st2,st3⟩:=acV u2 g0 (i:Int) x.rp;have hBm:=(s4 B hbo).1;have hBp:=(s4 B hbo).2;have hBv:=z2.lt hbo;obtain⟨V4,y1,x4,V5,y2,n5,OQ,v2⟩:∃V4,gv 1 (.pointer (some ⟨B,j*25+3,none⟩)) (.af (i:Int)) V3=some (ak,V4)/\V4.get V.next=some (.cells (jJ x))/\∃V5,gv 9 (.pointer (some ⟨B,j*25+16,none⟩)) (lC x.rp) V4=some (ak,V5)/\V5.next=V3.next/\(∀b,b≠B->V5.get b=V3.get b)/\iR V5 25 iz ov (s.ops.set j {o0 with to:=(i:Int),rp:=x.rp}) bo:=
    ⟨_,st1 V3 rfl,(AW.ay _ _ (by omega)).trans x3,_,st2 _ (AW.aW _ _ _),rfl,λb hb=>(AW.ay _ _ (aV hb)).trans (AW.ay _ _ (aV hb)),st3 _ (aM _) (AW.aW _ _ _)⟩
   have v1:=(OQ tb (by omega)).trans u1;have v3:iR V5 1 oY pv s.Fy bp:=u3.keep (by omega) λb hb=>OQ b (λe=>hBp (e▸hb))
   have vm:=m2.keep (OQ mb (by omega));obtain⟨TZ,U3,U4,w1,w2,w3,w4,w5,w6⟩:=Kj v1 v3 bpt (by omega) (by rw[I.opl];omega) ((s.sP-1:Nat):Int);have g6:bG (.pointer (some ⟨tb,6,none⟩)) V5=some (pv,V5):=xi v1 rfl;have ml:=KQ vm SL 3 #[false];simp only[SX,r7,r8,aN,Fz,mg,Ck,aJ,OW,Fc x2,aag,nq,m1,c53,t3,ix,Dv x3,y1,Dv x4,dP,DW x.rp,lX,y2,g6,ml,adA,w1,w2,t2,ai];have uk:gz s i x=⟨s.ops.set j {o0 with to:=(i:Int),rp:=x.rp},s.Fy++[((s.sP-1:Nat):Int)],λt=>if t=x.th then none else s.busy t,s.sP-1⟩:=by unfold gz rG;rw[aq hr,show(x.id-1).toNat=j by omega,g0]
   refine .inl ⟨ao,⟨by have:=nh.next;omega,λb hb=>?_⟩,by omega,⟨r32,r33,by rw[e3];rfl,r7,r8⟩,gz s i x,.succ hs hx he,?_⟩
   ·have h4:=nh.next;rw[w6 b (by omega) (by omega) λe=>by have:=s5 b e;omega,OQ b (by omega),m4 b (by omega)];exact nh.get b hb
   ·rw[uk];refine⟨ov,TZ,bo,_,w3,v2.keep (by omega) λb hb=>w6 b (v2.lt hb) (by have:=(s4 b hb).1;omega) (s4 b hb).2,w4,λb hb=>⟨(s4 b hb).1,λe=>by have:=v2.lt hb;injection e with e;omega⟩,λb hb=>by injection hb with hb;omega,?_⟩;have:=vm.keep (w6 mb (by omega) (by omega) (λe=>by have:=s5 mb e;omega));have hf:(λy=>if y=x.th then none else(s.busy y).map (Value.int .i64 ·))=λt=>(if t=x.th then none else s.busy t).map (Value.int .i64 ·):=by
     funext t;by_cases e:t=x.th
     ·rw[aq e,aq e];rfl
     ·rw[ap e,ap e]
    rw[hf]at this;exact this
 |false=>
  have Ck:=Dj x2;rw[hr]at Ck;cases hb:s.busy x.th with
  |some id'=>
   have e6:dR s x=6:=by unfold dR;rw[ap cc,ap (by rw[hr];simp),aq (.inl (by rw[hb];rfl))]
   rw[hb]at mg;simp only[cF,nA,wL]at mg;simp only[SX,r7,r8,Fz,mg,Ck,ai];exact .inr ⟨by simp,bad e6 (by decide) rfl rfl rfl⟩
  |none=>
   rw[hb]at mg;simp only[Option.map_none,Option.getD_none,ql]at mg;have c5:bG (.pointer (some ⟨tb,5,none⟩)) V2=some (ov,V2):=xi s1 rfl;have ho:Mc V2 ov s.ops:=s2.js.row mQ (rM mQ);have qQ:=I.opk;have t3:=λW'=>bJ W' (s.ops.length:Int) 1
   have e6:(x.id≠(s.ops.length:Int)+1\/x.rp≠kI\/Gq x.op≠0)->dR s x=6:=λh=>by unfold dR;rw[ap cc,ap (by rw[hr];simp),aq (.inr h)]
   have hG2:=hG.mono nh;have bt:bo≠some tb:=λe=>by have:=(s4 tb e).1;omega
   have bpt:bp≠some tb:=λe=>by have:=s5 tb e;omega
   have nq:=Vt x.rp kI false false V2;by_cases d1:x.id=(s.ops.length:Int)+1;case neg=>have d1':decide (x.id=(s.ops.length:Int)+1)=false:=bm d1;simp only[SX,r7,r8,aN,Fz,mg,Ck,aJ,OW,c5,ho.len Hi,t3,d1',ai];exact .inr ⟨by simp,bad (e6 (.inl d1)) (by decide) rfl rfl rfl⟩
   have d1':decide (x.id=(s.ops.length:Int)+1)=true:=be d1;by_cases d2:x.rp=kI;case neg=>rw[bm d2]at nq;simp only[SX,r7,r8,aN,Fz,mg,Ck,aJ,OW,c5,ho.len Hi,t3,d1',Dv x2,Xe,nq,ai];exact .inr ⟨by simp,bad (e6 (.inr (.inl d2))) (by decide) rfl rfl rfl⟩
   rw[be d2]at nq;by_cases d3:Gq x.op=0;case neg=>have d3':decide (Gq x.op=0)=false:=bm d3;simp only[SX,r7,r8,aN,Fz,mg,Ck,aJ,OW,c5,ho.len Hi,t3,d1',Dv x2,Xe,nq,Fc x2,Gz x.op hG2,d3',ai];exact .inr ⟨by simp,bad (e6 (.inr (.inr d3))) (by decide) rfl rfl rfl⟩
   have d3':decide (Gq x.op=0)=true:=be d3;have he:dR s x=0:=by unfold dR;rw[ap cc,ap (by rw[hr];simp),ap (by simp[hb,d1,d2,d3])]
   obtain⟨V3,m1,m2,m3,m4⟩:=alx s6 x.th (.af x.id);simp only[hb,Option.map_none,ql,nH,cV]at m2;have x3:V3.get V.next=some (.cells (jJ x)):=(m4 _ (by omega)).trans x2;have u1:=(m4 tb (by omega)).trans s1;have u2:iR V3 25 iz ov s.ops bo:=s2.keep (by omega) λB hB=>m4 B (by have:=(s4 B hB).1;omega)
   have u3:iR V3 1 oY pv s.Fy bp:=s3.keep (by omega) λB hB=>m4 B (by have:=s5 B hB;omega)
   have c53:bG (.pointer (some ⟨tb,5,none⟩)) V3=some (ov,V3):=xi u1 rfl;obtain⟨n,hn⟩:∃n:gn,n=⟨x.id,x.th,(i:Int),-1,x.op,kI⟩:=⟨_,rfl⟩;have b0:=λW=>agD x.id x.th (i:Int) (-1) x.op W
   rw[<-hn]at b0;obtain⟨Yx,U1,U2,p1,p2,p3,p4,p5,p6⟩:=Y5 u1 u2 bt (by omega) (by omega) n;have q3:iR U2 1 oY pv s.Fy bp:=u3.keep (by omega) λB hB=>p6 B (u3.lt hB) (by have:=s5 B hB;omega) (λe=>(s4 B e).2 hB)
   have qm:=m2.keep (p6 mb (by omega) (by omega) (λe=>by have:=(s4 mb e).1;omega));obtain⟨TZ,U3,U4,w1,w2,w3,w4,w5,w6⟩:=Kj p3 q3 bpt (by omega) (by rw[I.opl];omega) ((s.sP+1:Nat):Int);have g6:bG (.pointer (some ⟨tb,6,none⟩)) U2=some (pv,U2):=xi p3 rfl;have ml:=KQ qm SL 3 #[false];simp only[SX,r7,r8,aN,Fz,mg,Ck,aJ,OW,c5,ho.len Hi,t3,d1',Dv x2,Xe,nq,Fc x2,Gz x.op hG2,d3',m1,c53,WH x3,Ji x3,Fc x3,b0,alN,p1,p2,g6,ml,adA,w1,w2,t2,ai];have uk:gz s i x=⟨s.ops++[n],s.Fy++[((s.sP+1:Nat):Int)],λt=>if t=x.th then some x.id else s.busy t,s.sP+1⟩:=by unfold gz;rw[ap (by rw[hr];simp),hn]
   refine .inl ⟨ao,⟨by have:=nh.next;omega,λb hb=>?_⟩,by omega,⟨r32,r33,by rw[e3];rfl,r7,r8⟩,gz s i x,.succ hs hx he,?_⟩
   ·have h4:=nh.next;rw[w6 b (by omega) (by omega) λe=>by have:=s5 b e;omega,p6 b (by omega) (by omega) λe=>by have:=(s4 b e).1;omega,m4 b (by omega)];exact nh.get b hb
   ·rw[uk];refine⟨Yx,TZ,_,_,w3,p4.keep (by omega) λB hB=>w6 B (p4.lt hB) (by injection hB with hB;omega) (λe=>by injection hB with hB;have:=u3.lt e;omega),w4,λB hB=>⟨by injection hB with hB;omega,λe=>by injection hB with hB;injection e with e;omega⟩,λB hB=>by injection hB with hB;omega,?_⟩;have:=qm.keep (w6 mb (by omega) (by omega) (λe=>by have:=s5 mb e;omega));have hf:(λy=>if y=x.th then some (Value.int .i64 x.id)else(s.busy y).map (.af ·))=λt=>(if t=x.th then some x.id else s.busy t).map (.af ·):=by
     funext t;by_cases e:t=x.th
     ·rw[aq e,aq e];rfl
     ·rw[ap e,ap e]
    rw[hf]at this;exact this
end
def RdA(W:AW)(v:fc)(sv ev:ad)(l:List fF)(q:ad)(W':AW):Prop:=∃(a e:Int) (p:ad),HV (fp v).2 l a e/\q=.tuple #[p,.af a,.af e]/\Le W W'/\
 ((e≠0/\p=.pointer none)\/(e=0/\∃(s:TL) (tb:Nat) (ov pv:ad),qH l l.length s/\p=.pointer (some ⟨tb,0,none⟩)/\W.next<=tb/\tb<W'.next/\W'.get tb=some (.cells (PV v sv ev ov pv))/\Mc W' ov s.ops/\gg W' pv s.Fy))
def Ze{W:AW}{v:fc}{sv ev:ad}{l:List fF}(hG:GW W)(h:HiA W v sv ev l):∃q W',bf (.func (.func 22) #[] #[]) [CG v sv ev] W=some (q,W')/\RdA W v sv ev l q W':=by
 have sX:Ok (rV bf (CG v sv ev) W) λr=>RdA W v sv ev l r.1 r.2:=by
  unfold rV;have aS:Le W (W.add (.cells [.af v.sh,.af v.dS,.af v.g9,sv,ev])):=(Le.refl W).add _;have hc:aC (W.add (.cells [.af v.sh,.af v.dS,.af v.g9,sv,ev])) W.next=some [.af v.sh,.af v.dS,.af v.g9,sv,ev]:=bU;have hg:(W.add (.cells [.af v.sh,.af v.dS,.af v.g9,sv,ev])).get W.next=some (.cells [.af v.sh,.af v.dS,.af v.g9,sv,ev]):=AW.aH _ _;have hn1:(W.add (.cells [.af v.sh,.af v.dS,.af v.g9,sv,ev])).next=W.next+1:=AW.ar _ _;simp only[SX,aN];generalize W.add (.cells [.af v.sh,.af v.dS,.af v.g9,sv,ev])=W1 at *;have h1:=h.mono aS;have c4:bG (.pointer (some ⟨W.next,4,none⟩)) W1=some (ev,W1):=aZ hc rfl;have cA:fd 4 (.pointer (some ⟨W.next,0,none⟩)) W1=some (kP v sv,W1):=bV hc rfl;have cB:fd 5 (.pointer (some ⟨W.next,0,none⟩)) W1=some (CG v sv ev,W1):=bV hc rfl;have hv:=pZ h1.aA h1.small;by_cases e0:(fp v).2=0;case neg=>have d0:decide ((fp v).2=0)=false:=bm e0;simp only[SX,cA,hv,d0,ai];exact⟨-1,_,_,.Hh e0,rfl,aS,.inl ⟨e0,rfl⟩⟩
  have d0:decide ((fp v).2=0)=true:=be e0;by_cases e1:400<l.length;case pos=>have d1:decide ((400:Int)<(l.length:Int))=true:=dj;simp only[SX,cA,hv,d0,c4,h1.RA.len BQ,d1,ai];exact⟨-1,3,_,.len e0 e1,rfl,aS,.inl ⟨by decide,rfl⟩⟩
  have d1:decide ((400:Int)<(l.length:Int))=false:=cN;obtain⟨W2,b1,b2,b3,b4⟩:∃W2,nG (.agg #[.af v.sh,.af v.dS,.af v.g9,sv,ev,.slice none 0 0,.slice none 0 0]) W1=some (.pointer (some ⟨W1.next,0,none⟩),W2)/\W2.get W1.next=some (.cells (PV v sv ev (.slice none 0 0) (.slice none 0 0)))/\W2.next=W1.next+1/\Le W1 W2:=
   ⟨_,jf _,AW.aH _ _,AW.ar _ _,(Le.refl _).add _⟩
  obtain⟨W3,m1,m2,m3,m4⟩:∃W3,qu Tryz.prog 112 none W2=some (.map (some W2.next),W3)/\sH W3 W2.next (λ_=>none) 0/\W3.next=W2.next+1/\Le W2 W3:=⟨_,agn _,Kw,AW.ar _ _,(Le.refl _).add _⟩;have l3:=(aS.trans b4).trans m4;have c43:bG (.pointer (some ⟨W.next,4,none⟩)) W3=some (ev,W3):=xi ((m4.get _ (by omega)).trans ((b4.get _ (by omega)).trans hg)) rfl;have ev3:=h.RA.mono l3;simp only[SX,cA,hv,d0,c4,h1.RA.len BQ,d1,cB,ahz,b1,m1,c43];refine bz l.length (by omega) (λi R V=>Le W V/\W2.next<V.next/\RdR R ev l.length W1.next W2.next i/\∃s,qH l i s/\StE (W2.next+1) V W1.next W2.next v sv ev s)
   (λr=>RdQ W (W2.next+1) v sv ev l W1.next W2.next r) ⟨l3,by omega,⟨rfl,rfl,rfl,rfl,rfl⟩,_,.zero,?_⟩ ?_ ?_ ?_
  ·exact⟨_,_,none,none,(m4.get _ (by omega)).trans b2,.inl ⟨rfl,rfl,rfl⟩,.inl ⟨rfl,rfl,rfl⟩,(λB hB=>by cases hB),(λB hB=>by cases hB),m2⟩
  ·rintro i R V hi ⟨g1,g2,g3,s,g4,g5⟩;refine(P4 hG g1 h.RA (by omega) (by omega) (by omega) g2 g4 (bS hi) g3 g5).mono ?_;rintro r (⟨k1,k2,k3,k4,k5⟩|k)
   ·exact .inl ⟨k1,k2,k3,k4,k5⟩
   ·exact .inr k
  ·rintro R V ⟨g1,g2,⟨r32,r33,TP,r7,r8⟩,s,g4,g5⟩;unfold jY;have t1:¬((l.length:Int)<(l.length:Int)):=by omega
   simp only[SX,r33,TP,t1,ai];exact⟨by simp,g1,.inl ⟨rfl,g2,r7,s,g4,g5⟩⟩
  ·rintro⟨q,R,V⟩ ⟨g1,hq⟩;simp only at hq g1;rcases hq with⟨rfl,g2,r7,s,hs,ov,pv,bo,bp,k1,k2,k3,-⟩|⟨rfl,k,s,x,hs,hx,he,r2,r3,r4⟩
   ·simp only[SX,r7,ai];exact⟨0,0,_,.ok e0 (by omega) hs,rfl,g1,.inr ⟨rfl,s,W1.next,ov,pv,hs,rfl,by omega,by omega,k1,k2.js.row mQ (rM mQ),k3.js.ints⟩⟩
   ·simp only[SX,r2,r3,r4,ai];exact⟨_,_,_,.bad e0 (by omega) hs hx he,rfl,g1,.inl ⟨he,rfl⟩⟩
 refine KH sX Cu ?_;rintro q W' ⟨a,e,p,h1,rfl,h2,h3⟩ aS hp;refine⟨a,e,p,h1,rfl,Le.refl _,?_⟩;rcases h3 with h3|⟨-,s,tb,ov,pv,-,rfl,-⟩
 ·exact .inl h3
 ·exact absurd hp (by simp[bC,eQ,bZ])
def Kc(r:jS):ff (Jm r) (Jm r)=true:=ky (by simp[OV,tT])
def anN{W:AW}{b:Nat}{n m:gn}(h:W.get b=some (.cells (iz n))):gv 25 (.pointer (some ⟨b,0,none⟩)) (Eg m) W=some (ak,W.put b (.cells (iz m))):=kJ h rfl rfl rfl
def KG(a b:gn):Bool:=decide (0<=a.to)&&decide (a.to<b.fr)
def alB(e:gn)(W:AW):nG (Eg e) W=some (.pointer (some ⟨W.next,0,none⟩),W.add (.cells (iz e))):=jf _
def IN(a b:gn)(W:AW):bf (.func (.func 42) #[] #[]) [Eg a,Eg b] W=some (.bool (KG a b),W):=by
 refine aX rfl ?_ yz;unfold vF;simp only[SX,aN];have x1:((W.add (.cells (iz a))).add (.cells (iz b))).get W.next=some (.cells (iz a)):=by rw[AW.aD _ _ (by rw[AW.ar];omega),AW.aH]
 have x2:((W.add (.cells (iz a))).add (.cells (iz b))).get (W.add (.cells (iz a))).next=some (.cells (iz b)):=AW.aH _ _;have aS:Le W ((W.add (.cells (iz a))).add (.cells (iz b))):=((Le.refl _).add _).add _;generalize(W.add (.cells (iz a))).add (.cells (iz b))=W1 at *;unfold KG;cases c1:decide (0<=a.to)
 ·simp only[SX,I1 x1,c1,uC,ai];exact⟨ao,aS⟩
 ·simp only[SX,I1 x1,c1,ad0 x2,np,ai];exact⟨ao,aS⟩
def wu1:qk ak false=false:=aL rfl rfl
def wu2:qk ak true=false:=aL rfl rfl
structure xk where
 r:RunT
 b:Int
 a:Int
abbrev uX(c:xk):List ad:=[.af c.r.row,.af c.r.fi,.af c.r.ma,.af c.b,.af c.a]
abbrev Mo(c:xk):ad:=.agg #[.af c.r.row,.af c.r.fi,.af c.r.ma,.af c.b,.af c.a]
def Xl:xk:=⟨⟨0,0,0⟩,0,0⟩
def chR(n:Int)(r:RunT)(k:Nat):List xk:=(List.range k).map λi:Nat=>⟨r,(i:Int),r.ma-n-i⟩
def vh(n:Int)(l:List RunT):List xk:=l.flatMap λr=>chR n r (max (r.ma-n+1) 0).toNat
def xm(c:xk):Int:=QM c.b+QM c.a-QM c.r.ma
def Ub(b:Option xk)(c:xk):Option xk:=match b with
 |none=>some c
 |some d=>if xm c<xm d then some c else some d
def zB(l:List xk):Option xk:=l.foldl Ub none
def UV(n:Int)(W:AW):bf (.func (.func 209) #[] #[]) [.af n] W=some (.af (QM n),W):=by
 refine aX rfl ?_ yP;unfold uM QM;by_cases c:n=1
 ·have d:=be c;simp(maxDischargeDepth:=9) only[SX,MX,HX,d,aq c]
 ·have d:=bm c;simp(maxDischargeDepth:=9) only[SX,MX,HX,d,ap c]
def US(n:Int):0<=QM n/\QM n<=1:=by unfold QM;split<;>omega
def O3(c:xk)(W:AW):bf (.func (.func 208) #[] #[]) [Mo c] W=some (.af (xm c),W):=by
 refine aX rfl ?_ xS;unfold tx xm;have h1:=US c.b;have h2:=US c.a;have h3:=US c.r.ma;have a1:=λW'=>jT W' (QM c.b) (QM c.a)
 have a2:=λW'=>Fb W' (QM c.b+QM c.a) (QM c.r.ma)
 simp(maxDischargeDepth:=9) only[SX,MX,HX,UV,a1,a2]
def aie(r:RunT)(b a:Int)(W:AW):dX Tryz.prog 240 [(0,Xp r),(1,.af b),(2,.af a)] W=some (Mo ⟨r,b,a⟩,W):=aL (by kernel_rfl) rfl
def OO(W:AW):cl Tryz.prog 240 W=some (bi W.next,W.add (.cells (uX Xl))):=aL (by kernel_rfl) rfl
def al4(W:AW):cl Tryz.prog 4 W=some (bi W.next,W.add (.cells [.bool false])):=aL (by kernel_rfl) rfl
def afO(W:AW):cl Tryz.prog 252 W=some (bi W.next,W.add (.cells [.nilFunc])):=aL (by kernel_rfl) rfl
def ahk(x:ad)(W:AW):fR Tryz.prog 240 x W=fd 5 x W:=by kernel_rfl
def oL4(x:ad)(W:AW):fR Tryz.prog 4 x W=bG x W:=by kernel_rfl
def XW{W:AW}{b:Nat}{c0:xk}(h:W.get b=some (.cells (uX c0)))(c:xk):gv 5 (bi b) (Mo c) W=some (ak,W.put b (.cells (uX c))):=kJ (vs:=(uX c).toArray) h rfl rfl rfl
def Yy{W:AW}{b:Nat}{c:xk}(h:W.get b=some (.cells (uX c))):fd 5 (bi b) W=some (Mo c,W):=bV (az h) rfl
def adh:((#[219]:Array ae)[0]?).bind Tryz.prog.underlying=some (.slice 222):=by kernel_rfl
def RnR.get{W:AW}{v:ad}{l:List RunT}(h:RnR W v l){i:Nat}(hi:i<l.length):∃b o,(∀W' k,nR 3 v (.int k (i:Int)) W'=some (.pointer (some ⟨b,o,none⟩),W'))/\b<W.next/\∀W',W'.get b=W.get b->fd 3 (.pointer (some ⟨b,o,none⟩)) W'=some (Xp l[i],W'):=by
 obtain⟨b,o,cs,h1,h2,h3,h4⟩:=(If HH h).elem hi;refine⟨b,o,h1,h2,λW' hg=>?_⟩;have hc:aC W' b=some cs:=by unfold aC at h3|-;rw[hg];exact h3
 have e0:(cs.drop o).take 3=Ah l[i]:=h4;have:=bV (n:=3) (o:=o) hc (by rw[e0];rfl);rw[e0]at this;exact this
def Zg(a b:Int)(W:AW):aR Tryz.prog .max #[3,3] 3 #[false,true] [.af a,.af b] W=some (.af (max a b),W):=by
 have e:aR Tryz.prog .max #[3,3] 3 #[false,true] [.af a,.af b] W=(mo Tryz.prog ([Value.int .i64 a,.af b].all bC) (builtin .max #[3,3] 3 #[false,true] #[.af a,.af b])).map λv=>(v,W):=by unfold aR;rfl
 rw[e];have e2:builtin .max #[3,3] 3 #[false,true] #[.af a,.af b]=(do pure (.value (<-Builtin.max_ #[3,3] 3 #[.af a,.af b]))):=rfl;rw[e2];refine GI ?_ rfl _ rfl;unfold Builtin.max_;simp only[List.foldlM_cons,List.foldlM_nil,eT,Builtin.max2,gY,bL];congr 2;by_cases h:a<b
 ·rw[aq h];omega
 ·rw[ap h];omega
def Kt{f lv:ad}{b1 b2 b0:Nat}{W0 W:AW}{n:Int}{l:List RunT}(hl:RnR W0 lv l)(Z6:l.length<=100000)(hn:1<=n/\n<=8)(hma:∀r∈l,0<r.ma/\r.ma<=10000)
 (I:List xk->AW->Prop)(hI:I [] W)(hS:∀pre V,I pre V->Le W0 V/\b0<V.next/\V.get b1=some (.cells [lv])/\V.get b2=some (.cells [.af n]))(hA:∀pre V cs,I pre V->I pre (V.add (.cells cs)))
 (step:∀pre c V,I pre V->∃V2,bf f [Mo c] V=some (.bool true,V2)/\I (pre++[c]) V2/\V.next<=V2.next/\∀b,b0<b->b<V.next->V2.get b=V.get b):
 ∃W2,bf (.func (.func 220) #[] #[bi b1,bi b2]) [f] W=some (.tuple #[],W2)/\I (vh n l) W2:=by
 have sX:Ok (kn bf f (bi b1) (bi b2) W) λr=>r.1=.tuple #[]/\I (vh n l) r.2:=by
  unfold kn;have l1:∀pre V,I pre V->bG (bi b1) V=some (lv,V):=λpre V hV=>aZ (az (hS _ _ hV).2.2.1) rfl
  have l2:∀pre V,I pre V->bG (bi b2) V=some (.af n,V):=λpre V hV=>aZ (az (hS _ _ hV).2.2.2) rfl
  simp only[SX,l1 _ W hI,nu hl adh];refine bz l.length (by omega) (λi R V=>R 0=f/\R 2=bi b2/\R 7=lv/\R 8=.af (l.length:Int)/\R 9=.af (i:Int)/\I (vh n (l.take i)) V)
   (λr=>r.1=.exit 0/\I (vh n l) r.2.2) ⟨rfl,rfl,rfl,rfl,rfl,hI⟩ ?_ ?_ ?_
  ·rintro i R V hi ⟨r0,r2,r7,r8,r9,hV⟩;unfold iC;have t1:decide ((i:Int)<(l.length:Int))=true:=dj;have t2:=λW'=>bJ W' i 1
   have e3:((i+1:Nat):Int)=(i:Int)+1:=by omega
   obtain⟨b,o,g1,g2,g3⟩:=hl.get hi;have aS:=(hS _ _ hV).1;have apC:=(hS _ _ hV).2.1;have hr:=hma _ (ez hi);have yj:=hA _ _ (Ah l[i]) hV;have PO:gv 3 (bi V.next) (Xp l[i]) (V.add (.cells (Ah ⟨0,0,0⟩)))=some (ak,V.add (.cells (Ah l[i]))):=by rw[acd (AW.aH _ _),jl]
   have lm:bG (.pointer (some ⟨V.next,2,none⟩)) (V.add (.cells (Ah l[i])))=some (.af l[i].ma,V.add (.cells (Ah l[i]))):=aZ bU rfl;have s1:=λW'=>Fb W' (l[i].ma) n
   have s2:=λW'=>bJ W' (l[i].ma-n) 1
   simp only[SX,r2,r7,r8,r9,t1,g1,g3 V (aS.get _ g2),aai,PO,aN,lm,l2 _ _ yj,s1,s2,Zg];have hgb:(V.add (.cells (Ah l[i]))).get V.next=some (.cells (Ah l[i])):=AW.aH _ _;have hbV:V.next<(V.add (.cells (Ah l[i]))).next:=by rw[AW.ar];omega
   generalize V.add (.cells (Ah l[i]))=V1 at *;generalize hrb:V.next=rb at *;have hk:max (l[i].ma-n+1) 0=(((max (l[i].ma-n+1) 0).toNat:Nat):Int):=by omega
   rw[hk];generalize hkk:(max (l[i].ma-n+1) 0).toNat=kk at *;refine bz kk (by omega) (λj R V=>R 0=f/\R 2=bi b2/\R 5=bi rb/\R 7=lv/\R 8=.af (l.length:Int)/\R 9=.af (i:Int)/\R 18=.af (kk:Int)/\R 19=.af (j:Int)/\V.get rb=some (.cells (Ah l[i]))/\rb<V.next/\I (vh n (l.take i)++chR n l[i] j) V)
    (λr=>r.1=.exit 2/\r.2.1 0=f/\r.2.1 2=bi b2/\r.2.1 7=lv/\r.2.1 8=.af (l.length:Int)/\r.2.1 9=.af (i:Int)/\I (vh n (l.take (i+1))) r.2.2)
    ⟨r0,r2,rfl,r7,r8,r9,rfl,rfl,hgb,hbV,by rw[show chR n l[i] 0=[]from rfl,iD];exact yj⟩ ?_ ?_ ?_
   ·rintro j R V' hj ⟨r0,r2,r5,r7,r8,r9,IA,WV,gb,hbV,Ny⟩;unfold fH;have t1:decide ((j:Int)<(kk:Int))=true:=dj;have t2:=λW'=>bJ W' j 1
    have e3:((j+1:Nat):Int)=(j:Int)+1:=by omega
    have la:fd 3 (bi rb) V'=some (Xp l[i],V'):=bV (az gb) rfl;have lm:bG (.pointer (some ⟨rb,2,none⟩)) V'=some (.af l[i].ma,V'):=aZ (az gb) rfl;have s3:=λW'=>Fb W' (l[i].ma-n) j
    obtain⟨V2,k1,k2,k3,k4⟩:=step _ ⟨l[i],(j:Int),l[i].ma-n-j⟩ V' Ny;simp only[SX,r0,r2,r5,IA,WV,t1,la,aN,lm,l2 _ _ Ny,s1,s3,aie,k1,t2,ai];refine .inl ⟨ao,r0,r2,r5,r7,r8,r9,IA,by rw[e3];rfl,(k4 _ (by omega) hbV).trans gb,by omega,?_⟩;rw[mA]at k2;unfold chR;rw[ux,qI];exact k2
   ·rintro R V' ⟨r0,r2,r5,r7,r8,r9,IA,WV,gb,hbV,Ny⟩;unfold fH;have t1:decide ((kk:Int)<(kk:Int))=false:=cN;simp only[SX,IA,WV,t1,ai];refine⟨by simp,ao,r0,r2,r7,r8,r9,?_⟩;have e:vh n (l.take (i+1))=vh n (l.take i)++chR n l[i] kk:=by unfold vh;rw[lW hi,jg,gU,yD,iD,hkk]
    rw[e];exact Ny
   ·rintro⟨e,R,V'⟩ ⟨rfl,r0,r2,r7,r8,r9,Ny⟩;simp only at r0 r2 r7 r8 r9 Ny;simp only[SX,r9,t2,ai];exact .inl ⟨ao,r0,r2,r7,r8,by rw[e3];rfl,Ny⟩
  ·rintro R V ⟨r0,r2,r7,r8,r9,hV⟩;unfold iC;have t1:decide ((l.length:Int)<(l.length:Int))=false:=cN;rw[cY]at hV;simp only[SX,r8,r9,t1,ai];exact⟨by simp,ao,hV⟩
  ·rintro⟨e,R,V⟩ ⟨rfl,hV⟩;simp only[SX,ai];exact⟨ao,hV⟩
 obtain⟨⟨v,V⟩,h1,rfl,h2⟩:=sX;exact⟨V,by rw[tU h1,pC rfl],h2⟩
def aj1{W:AW}{b:Nat}{x:ad}{f:Nat}(h:W.get b=some (.cells [x])):gv 1 (bi b) (.func (.func f) #[] #[]) W=some (ak,W.put b (.cells [.func (.func f) #[] #[]])):=by rw[nY rfl rfl,dJ h];rfl
def aiQ{W:AW}{b:Nat}{x:ad}{c:Bool}(h:W.get b=some (.cells [x])):gv 1 (bi b) (.bool c) W=some (ak,W.put b (.cells [.bool c])):=by rw[zy,dJ h];rfl
def Jz(c:xk):ff (Mo c) (Mo c)=true:=ky (by simp[OV,tT])
def Kg(f:Nat):ff (.func (.func f) #[] #[]) (.func (.func f) #[] #[])=true:=by simp[ff,tT]
def Rn(r:Option (ad×AW))(v:ad):ur false r v=true:=aL (by unfold ur;rfl) rfl
def Jt(b:Option xk):xk:=b.getD Xl
structure MK (W V:AW) (lv:ad) (n:Int) (lp:db) (b:Option xk):Prop where
 le:Le W V
 nx:W.next+5<V.next
 g0:V.get W.next=some (.cells (uX (Jt b)))
 g1:V.get (W.next+1)=some (.cells [.bool b.isSome])
 g2:V.get (W.next+2)=some (.cells [.func (.func 208) #[] #[]])
 g3:V.get (W.next+3)=some (.cells [lv])
 g4:V.get (W.next+4)=some (.cells [.af n])
 g5:V.get (W.next+5)=some lp
def MK.add{W V:AW}{lv:ad}{n:Int}{lp:db}{b:Option xk}(h:MK W V lv n lp b)(o:db):MK W (V.add o) lv n lp b:=by
 have hn:=h.nx;have g:∀c,c<V.next->(V.add o).get c=V.get c:=λc hc=>AW.aD _ _ (by omega)
 exact⟨h.le.add _,by rw[AW.ar];omega,(g _ (by omega)).trans h.g0,(g _ (by omega)).trans h.g1,(g _ (by omega)).trans h.g2,(g _ (by omega)).trans h.g3,(g _ (by omega)).trans h.g4,(g _ (by omega)).trans h.g5⟩
def MK.lp{W V:AW}{lv:ad}{n:Int}{lp:db}{b:Option xk}(h:MK W V lv n lp b)(o:db):MK W (V.put (W.next+5) o) lv n o b:=by
 have g:∀c,c≠W.next+5->(V.put (W.next+5) o).get c=V.get c:=λc hc=>AW.ay _ _ (aV hc)
 exact⟨h.le.put (by omega) _,h.nx,(g _ (by omega)).trans h.g0,(g _ (by omega)).trans h.g1,(g _ (by omega)).trans h.g2,(g _ (by omega)).trans h.g3,(g _ (by omega)).trans h.g4,AW.aW _ _ _⟩
def MK.set{W V:AW}{lv:ad}{n:Int}{lp:db}{b:Option xk}(h:MK W V lv n lp b)(c:xk):MK W ((V.put W.next (.cells (uX c))).put (W.next+1) (.cells [.bool true])) lv n lp (some c):=by
 have g:∀d,d≠W.next->d≠W.next+1->((V.put W.next (.cells (uX c))).put (W.next+1) (.cells [.bool true])).get d=V.get d:=λd h1 h2=>(AW.ay _ _ (aV h2)).trans (AW.ay _ _ (aV h1))
 exact⟨(h.le.put (by omega) _).put (by omega) _,h.nx,(AW.ay _ _ (by omega)).trans (AW.aW _ _ _),AW.aW _ _ _,(g _ (by omega) (by omega)).trans h.g2,(g _ (by omega) (by omega)).trans h.g3,(g _ (by omega) (by omega)).trans h.g4,(g _ (by omega) (by omega)).trans h.g5⟩
def TH{W V:AW}{lv:ad}{n:Int}{lp:db}{b:Option xk}{c:xk}{cb:Nat}{R:Nat->ad}(h:MK W V lv n lp b)(hc:V.get cb=some (.cells (uX c)))(Jl:W.next+5<cb)(r4:R 4=bi W.next)(r5:R 5=bi (W.next+1))(r6:R 6=bi (W.next+2))(r7:R 7=bi cb):
 ∃R' V',kT bf R V=some (.normal,R',V')/\MK W V' lv n lp (Ub b c)/\V'.next=V.next/\∀d,W.next+5<d->V'.get d=V.get d:=by
 unfold kT;have l5:bG (bi (W.next+1)) V=some (.bool b.isSome,V):=aZ (az h.g1) rfl;have l6:bG (bi (W.next+2)) V=some (.func (.func 208) #[] #[],V):=aZ (az h.g2) rfl;have l7:=Yy hc;have l4:=Yy h.g0;have s1:=XW h.g0 c;have s2:gv 1 (bi (W.next+1)) (.bool true) (V.put W.next (.cells (uX c)))=some (ak,(V.put W.next (.cells (uX c))).put (W.next+1) (.cells [.bool true])):=aiQ ((AW.ay _ _ (by omega)).trans h.g1);have o:∀d,W.next+5<d->((V.put W.next (.cells (uX c))).put (W.next+1) (.cells [.bool true])).get d=V.get d:=λd hd=>(AW.ay _ _ (by omega)).trans (AW.ay _ _ (by omega))
 cases b with
 |none=>simp only[SX,r4,r5,r6,r7,l5,ql,Rn,ki,l7,s1,s2];exact⟨_,_,rfl,h.set c,rfl,o⟩
 |some d=>
  have e:Jt (some d)=d:=rfl;rw[e]at l4;by_cases c0:xm c<xm d
  ·have d0:=be c0;simp only[SX,r4,r5,r6,r7,l5,wL,l6,l7,l4,O3,dP,Jz,Kg,ki,d0,s1,s2];refine⟨_,_,rfl,?_,rfl,o⟩;show MK W _ lv n lp (if xm c<xm d then some c else some d);rw[aq c0];exact h.set c
  ·have d0:=bm c0;simp only[SX,r4,r5,r6,r7,l5,wL,l6,l7,l4,O3,dP,Jz,Kg,ki,d0];refine⟨_,_,rfl,?_,rfl,λ_ _=>rfl⟩;show MK W _ lv n lp (if xm c<xm d then some c else some d);rw[ap c0];exact h
def XP{W:AW}{lv:ad}{n:Int}{l:List RunT}(hl:RnR W lv l)(Z6:l.length<=100000)(hn:1<=n/\n<=8)(hma:∀r∈l,0<r.ma/\r.ma<=10000):
 bf (.func (.func 191) #[] #[]) [lv,.af n] W=some (.tuple #[Mo (Jt (zB (vh n l))),.bool (zB (vh n l)).isSome],W):=by
 refine aX rfl ?_ A3;unfold xy;obtain⟨a,c,hlv,-⟩:=id hl;obtain⟨V3,FK⟩:∃V3,V3=((W.add (.cells (uX Xl))).add (.cells [.bool false])).add (.cells [.func (.func 208) #[] #[]]):=⟨_,rfl⟩;have n3:V3.next=W.next+3:=by rw[FK];rfl
 have JI:Le W V3:=by rw[FK];exact(((Le.refl W).add _).add _).add _
 have st3:gv 1 (bi (W.next+2)) (.func (.func 208) #[] #[]) (((W.add (.cells (uX Xl))).add (.cells [.bool false])).add (.cells [.nilFunc]))=some (ak,V3):=by have e:W.next+2=((W.add (.cells (uX Xl))).add (.cells [.bool false])).next:=rfl;rw[e,aj1 (AW.aH _ _),jl,FK]
 have q2:V3.get (W.next+2)=some (.cells [.func (.func 208) #[] #[]]):=by rw[FK];exact AW.aH ((W.add (.cells (uX Xl))).add (.cells [.bool false])) _
 have q1:V3.get (W.next+1)=some (.cells [.bool false]):=by rw[FK];exact(AW.aD _ _ (by simp only[AW.ar];omega)).trans (AW.aH (W.add (.cells (uX Xl))) _)
 have q0:V3.get W.next=some (.cells (uX Xl)):=by rw[FK];exact(AW.aD _ _ (by simp only[AW.ar];omega)).trans ((AW.aD _ _ (by simp only[AW.ar];omega)).trans (AW.aH _ _))
 obtain⟨V5,Mm⟩:∃V5,V5=(V3.add (.cells [lv])).add (.cells [.af n]):=⟨_,rfl⟩;have n5:V5.next=W.next+5:=by rw[Mm,AW.ar,AW.ar,n3]
 have le5:Le V3 V5:=by rw[Mm];exact((Le.refl V3).add _).add _
 have q4:V5.get (W.next+4)=some (.cells [.af n]):=by
  have e:W.next+4=(V3.add (.cells [lv])).next:=by rw[AW.ar,n3]
  rw[e,Mm];exact AW.aH _ _
 have q3:V5.get (W.next+3)=some (.cells [lv]):=by rw[Mm,AW.aD _ _ (by rw[AW.ar,n3];omega),<-n3];exact AW.aH _ _
 have hch:bf (.func (.func 210) #[] #[]) [lv,.af n] V3=some (.func (.func 220) #[] #[bi (W.next+3),bi (W.next+4)],V5):=by
  have:mF bf lv (.af n) V3=some (.func (.func 220) #[] #[bi (W.next+3),bi (W.next+4)],V5):=by unfold mF;rw[hlv];simp only[SX,n3,AW.ar];rw[Mm,hlv]
  rw[wW this,pC rfl]
 simp only[SX,OO,al4,afO,AW.ar,i9,Nat.reduceAdd,st3,hch];generalize hR:(q (q (cR 0 [lv,Value.int IntKind.i64 n] ah.blank) 4 [bi W.next,bi (W.next+1),bi (W.next+2)]) 8 [lv,Value.int IntKind.i64 n,Value.func (Fn.func 220) #[] #[bi (W.next+3),bi (W.next+4)]])=R;have R4:R 4=bi W.next:=by rw[<-hR];rfl
 have R5:R 5=bi (W.next+1):=by rw[<-hR];rfl
 have R6:R 6=bi (W.next+2):=by rw[<-hR];rfl
 clear hR;obtain⟨lp,hlp⟩:∃lp,lp=db.loop .ready none R 26 #[11] (wR [1,1,0,1,0,0] (Bz 191)) (wR [1,1,0,1,0,1] (Bz 191)):=⟨_,rfl⟩;have I0:MK W (V5.add lp) lv n lp none:=by
  have g:∀d,d<W.next+5->(V5.add lp).get d=V5.get d:=λd hd=>AW.aD _ _ (by omega)
  have g':∀d,d<W.next+3->(V5.add lp).get d=V3.get d:=λd hd=>(g d (by omega)).trans (le5.get d (by omega))
  exact⟨(JI.trans le5).add _,by rw[AW.ar];omega,(g' _ (by omega)).trans q0,(g' _ (by omega)).trans q1,(g' _ (by omega)).trans q2,(g _ (by omega)).trans q3,(g _ (by omega)).trans q4,by rw[<-n5];exact AW.aH _ _⟩
 obtain⟨W2,k1,k2⟩:=Kt (f:=.func (.yield V5.next) #[] #[]) (b1:=W.next+3) (b2:=W.next+4) (b0:=W.next+5) (W0:=W) (W:=V5.add lp) (n:=n) hl Z6 hn hma
  (λpre V=>MK W V lv n lp (zB pre)) I0 (λpre V h=>⟨h.le,h.nx,h.g3,h.g4⟩) (λpre V cs h=>h.add _)
  (λpre c V h=>by
    have hg:V.get V5.next=some (.loop .ready none R 26 #[11] (wR [1,1,0,1,0,0] (Bz 191)) (wR [1,1,0,1,0,1] (Bz 191))):=by rw[n5,<-hlp];exact h.g5
    have Uw:=h.nx;have PO:gv 5 (bi V.next) (Mo c) (V.add (.cells (uX Xl)))=some (ak,V.add (.cells (uX c))):=by rw[XW (AW.aH _ _),jl]
    have h1:eH Tryz.prog bf false 26 (wR [1,1,0,1,0,0] (Bz 191)) LT (kD (#[11]:Array Tmp).toList [Mo c] R) V ke=some (.normal,fM (fM R (some 11) (Mo c)) (some 7) (bi V.next),V.add (.cells (uX c))):=by rw[uL,am2];unfold p7;have e11:(fM R (some 11) (Mo c):Nat->ad) 11=Mo c:=rfl;simp only[SX,OO,e11,PO];rfl
    have hI2:=(h.add (.cells (uX c))).lp (.loop .busy none R 26 #[11] (wR [1,1,0,1,0,0] (Bz 191)) (wR [1,1,0,1,0,1] (Bz 191)));obtain⟨R',V',p1,p2,p3,p4⟩:=TH (c:=c) (cb:=V.next) (R:=fM (fM R (some 11) (Mo c)) (some 7) (bi V.next)) hI2 ((AW.ay _ _ (by omega)).trans (AW.aH _ _)) Uw R4 R5 R6 rfl;have hy:=Bp (P:=Tryz.prog) (bad:=MN) (spec:=specs) (args:=[Mo c]) hg rfl h1 ((AW.aD _ _ (by omega)).trans hg) (by rw[uU,n5];exact p1) (by rw[n5];exact p2.g5);refine⟨_,hy,?_,?_,λd hd hd2=>?_⟩
    ·have:=p2.lp lp;rw[hlp]at this;rw[n5];have e:zB (pre++[c])=Ub (zB pre) c:=by unfold zB;rw[Ij];rfl
     rw[e,hlp];exact this
    ·show V.next<=V'.next;rw[p3,AW.bh,AW.ar];omega
    ·rw[n5];exact(AW.ay _ _ (by omega)).trans ((p4 d hd).trans ((AW.ay _ _ (by omega)).trans (AW.aD _ _ (by omega)))))
 have hr:=rS (call:=bf) (W:=V5) (obj:=lp) k1 (by rw[n5];rw[hlp]at k2;exact k2.g5) (by simp);rw[hlp]at hr;rw[hr];have o6:∀d,d<W.next+5->(W2.kill V5.next).get d=W2.get d:=λd hd=>AW.cE _ (by omega)
 have la:=Yy ((o6 _ (by omega)).trans k2.g0);have lb:bG (bi (W.next+1)) (W2.kill V5.next)=some (.bool (zB (vh n l)).isSome,W2.kill V5.next):=aZ (az ((o6 _ (by omega)).trans k2.g1)) rfl;have sa:=XW ((o6 _ (by omega)).trans k2.g0) (Jt (zB (vh n l)));have lc:bG (bi (W.next+1)) ((W2.kill V5.next).put W.next (.cells (uX (Jt (zB (vh n l))))))=some (.bool (zB (vh n l)).isSome,(W2.kill V5.next).put W.next (.cells (uX (Jt (zB (vh n l)))))):=
  aZ (az ((AW.ay _ _ (by omega)).trans ((o6 _ (by omega)).trans k2.g1))) rfl
 have sb:=aiQ (c:=(zB (vh n l)).isSome) ((AW.ay (W2.kill V5.next) (b:=W.next) (c:=W.next+1) (.cells (uX (Jt (zB (vh n l))))) (by omega)).trans ((o6 _ (by omega)).trans k2.g1));have ld:fd 5 (bi W.next) (((W2.kill V5.next).put W.next (.cells (uX (Jt (zB (vh n l)))))).put (W.next+1) (.cells [.bool (zB (vh n l)).isSome]))=some (Mo (Jt (zB (vh n l))),((W2.kill V5.next).put W.next (.cells (uX (Jt (zB (vh n l)))))).put (W.next+1) (.cells [.bool (zB (vh n l)).isSome])):=
  Yy ((AW.ay _ _ (by omega)).trans (AW.aW _ _ _))
 have le:bG (bi (W.next+1)) (((W2.kill V5.next).put W.next (.cells (uX (Jt (zB (vh n l)))))).put (W.next+1) (.cells [.bool (zB (vh n l)).isSome]))=some (.bool (zB (vh n l)).isSome,((W2.kill V5.next).put W.next (.cells (uX (Jt (zB (vh n l)))))).put (W.next+1) (.cells [.bool (zB (vh n l)).isSome])):=
  aZ (az (AW.aW _ _ _)) rfl
 simp only[SX,la,lb,sa,lc,dP,Em,ki,sb,yu,ahk,oL4,ld,le,bL,ai];exact⟨ao,((k2.le.kill (by omega)).put (aM _) _).put (by omega) _⟩
def ac2:((#[135]:Array ae)[0]?).bind Tryz.prog.underlying=some (.slice 4):=by kernel_rfl
def OE{l:List Bool}:∀(ms:List Nat) (r f:Nat) (x:RunT),(∀m∈ms,m<=64)->x∈Ba l r f ms->0<x.ma/\x.ma<=64/\(f:Int)<=x.fi/\x.fi+x.ma<=((f+iG ms:Nat):Int)
 |[],r,f,x,_,h=>by cases h
 |m::t,r,f,x,hm,h=>by
  have e:iG (m::t)=m+iG t:=rfl;simp only[Ba]at h;rcases py.mp h with h|h
  ·obtain⟨a,c,K,e1,e2,e3,e4,-,-,e7⟩:=MS (DI l f m) f 0 x (by rw[show(f:Int)-((0:Nat):Int)=f by omega];exact h);simp only[List.replicate_zero,lM]at e7;have hl:=VD l f m;rw[e7,cT,cT,xT]at hl;have:=hm m (by simp);omega
  ·have:=OE t (r+1) (f+m) x (λm hm'=>hm m (by simp[hm'])) h;omega
def D9{v:fc}(he:(fp v).2=0){k:Nat}(hk:k<v.aA.length){free:List Bool}{x:RunT}(h:x∈qf v k free):0<x.ma/\x.ma<=64/\0<=x.fi/\x.fi+x.ma<=bO v.aA:=by obtain⟨s1,s2,s3,s4,s5,s6,s7,s8⟩:=N4 he hk;have h1:=OE (Dc v k) 0 (Ju v k) x (λm hm=>by rw[s2]at hm;obtain⟨n,hn,rfl⟩:=mE.1 hm;have:=(s3 n hn).2;omega) h;have h2:=ET v.aA[k].rows (λn hn=>(s3 n hn).1);rw[<-s2]at h2;omega
def TN{n:Int}{l:List RunT}{c:xk}(h:c∈vh n l):c.r∈l/\0<=c.b/\c.b+n<=c.r.ma/\c.a=c.r.ma-n-c.b:=by unfold vh at h;obtain⟨r,hr,hc⟩:=List.mem_flatMap.1 h;unfold chR at hc;obtain⟨i,hi,rfl⟩:=mE.1 hc;rw[nF]at hi;exact⟨hr,by show(0:Int)<=(i:Int);omega,by show(i:Int)+n<=r.ma;omega,rfl⟩
def Uf(l:List xk):∀(b:Option xk) (c:xk),l.foldl Ub b=some c->c∈l\/b=some c:=by
 induction l with
 |nil=>intro b c h;exact .inr h
 |cons a l ih=>
  intro b c h;rw[wF]at h;rcases ih _ _ h with h|h
  ·exact .inl (by simp[h])
  ·cases b with
   |none=>injection h with h;subst h;exact .inl (by simp)
   |some d=>
    unfold Ub at h;simp only at h;split at h
    ·injection h with h;subst h;exact .inl (by simp)
    ·exact .inr h
def Ue{l:List xk}{c:xk}(h:zB l=some c):c∈l:=by
 rcases Uf l none c h with h|h
 ·exact h
 ·cases h
def uE(v:fc)(k:Nat)(n:Int)(free:List Bool):Int×Int:=match zB (vh n (qf v k free))with
 |none=>(0,15)
 |some c=>(c.r.fi+c.b,0)
def Wq{v:fc}(he:(fp v).2=0){k:Nat}(hk:k<v.aA.length){n:Int}{free:List Bool}(h:(uE v k n free).2=0):0<=(uE v k n free).1/\(uE v k n free).1+n<=bO v.aA:=by
 unfold uE at h|-;cases e:zB (vh n (qf v k free))with
 |none=>rw[e]at h;exact absurd h (by decide)
 |some c=>obtain⟨h1,h2,h3,-⟩:=TN (Ue e);have:=D9 he hk h1;simp only;omega
def BO{W:AW}{v:fc}{sv fv:ad}{free:List Bool}{k:Nat}(hs:iO W sv v.aA)(he:(fp v).2=0)(hv:v.aA.length<1000)(hk:k<v.aA.length)(hf:BoR W fv free)(IX:(free.length:Int)=bO v.aA):
 bf (.func (.func 189) #[] #[]) [kP v sv,fv,.af (k:Int)] W=some (.af 0,W):=by
 refine aX rfl ?_ zG;unfold vj;obtain⟨W1,hB,aS,hn,c4,c0,c3⟩:=vD v sv W;have wu:=Fp (W:=W1) (hs.mono aS) hv;have e1:(dh v).2=0:=by unfold dh;rw[aq he]
 have e2:(dh v).1=bO v.aA:=by unfold dh;rw[aq he]
 rw[e1,e2]at wu;have d1:decide ((free.length:Int)=bO v.aA)=true:=be IX;have d2:decide ((k:Int)<0)=false:=cN;have d3:decide ((v.aA.length:Int)<=(k:Int))=false:=cN;have d0:decide ((0:Int)=0)=true:=rfl;simp only[SX,hB,aN,c4 _ (Le.refl _),wu,nu hf ac2,d1,d2,c3 _ (Le.refl _),Row.len hs.1 L3,d3,ai];exact⟨ao,aS⟩
def Kb{n:Int}(h:1<=n/\n<=8)(W:AW):bf (.func (.func 190) #[] #[]) [.af n] W=some (.bool true,W):=by refine aX rfl ?_ zL;unfold uR;have d1:=be h.1;have d2:=be h.2;simp(maxDischargeDepth:=9) only[SX,MX,HX,d1,d2]
def Z0{W:AW}{v:fc}{sv fv:ad}{free:List Bool}{k:Nat}{n:Int}(hs:iO W sv v.aA)(he:(fp v).2=0)(hv:v.aA.length<1000)(hk:k<v.aA.length)(hf:BoR W fv free)(IX:(free.length:Int)=bO v.aA)(hn:1<=n/\n<=8):
 bf (.func (.func 153) #[] #[]) [kP v sv,fv,.af (k:Int),.af n] W=some (.tuple #[.af (uE v k n free).1,.af (uE v k n free).2],W):=by
 refine aX rfl ?_ Bf;unfold xw;obtain⟨W1,hB,aS,Uw,c4,c0,c3⟩:=vD v sv W;obtain⟨u,W2,k1,k2,k3⟩:=XF (hs.mono aS) he hv hk (hf.keep aS) IX;have ht:=(N4 he hk).2.2.2.2.2.1;have nM:∀r∈qf v k free,0<r.ma/\r.ma<=10000:=λr hr=>by have:=D9 he hk hr;omega
 have eG:(qf v k free).length<=100000:=by
  obtain⟨s1,s2,s3,s4,-⟩:=N4 he hk;have:=E8 free (Dc v k) 0 (Ju v k) (λm hm=>by rw[s2]at hm;obtain⟨n,hn,rfl⟩:=mE.1 hm;have:=(s3 n hn).2;omega);have e:(Dc v k).length<=16:=by rw[s2,gV];exact s4
  unfold qf;omega
 have hb:=XP k3 eG hn nM;have d0:decide ((0:Int)=0)=true:=rfl;have nh:=aS.trans k2;have PO:=XW (AW.aH W2 (.cells (uX Xl))) (Jt (zB (vh n (qf v k free))));rw[jl]at PO;have Hu:Le W (W2.add (.cells (uX (Jt (zB (vh n (qf v k free))))))):=nh.add _;unfold uE;cases e:zB (vh n (qf v k free))with
 |none=>rw[e]at hb PO Hu;simp only[SX,hB,aN,c4 _ (Le.refl _),BO (hs.mono aS) he hv hk (hf.keep aS) IX,Kb hn,k1,hb,OO,PO,ql,ai];exact⟨ao,Hu⟩
 |some c=>
  rw[e]at hb PO Hu;obtain⟨h1,h2,h3,-⟩:=TN (Ue e);have h4:=D9 he hk h1;have l1:bG (.pointer (some ⟨W2.next,1,none⟩)) (W2.add (.cells (uX (Jt (some c)))))=some (.af c.r.fi,W2.add (.cells (uX (Jt (some c))))):=aZ bU rfl;have l3:bG (.pointer (some ⟨W2.next,3,none⟩)) (W2.add (.cells (uX (Jt (some c)))))=some (.af c.b,W2.add (.cells (uX (Jt (some c))))):=aZ bU rfl;have a1:=λW'=>jT W' c.r.fi c.b
  simp only[SX,hB,aN,c4 _ (Le.refl _),BO (hs.mono aS) he hv hk (hf.keep aS) IX,Kb hn,k1,hb,OO,PO,wL,l1,l3,a1,ai];exact⟨ao,Hu⟩
def FI(x:cK):List Bool:=x.st.map λs=>decide (s.st=0)
def tN(ow t:Int)(a:Nat)(y:cK)(i:Nat):cK:={y with st:=y.st.set (a+i) (Sr (dO y (a+i)) ow t)}
def Zz(x:cK)(a n:Nat)(ow t:Int):cK:=(List.range n).foldl (tN ow t a) x
def rpB(a n d:Int):oE:={kI with se:=a,n:=n,dl:=d}
def abp(a n d:Int)(W:AW):dX Tryz.prog 50 [(1,.af a),(2,.af n),(3,.af d)] W=some (lC (rpB a n d),W):=aL (by kernel_rfl) rfl
def amy:Tryz.prog.underlying 135=some (.slice 4):=by kernel_rfl
def b4:(Tryz.prog.info? 4).map (·.bytes)=some 1:=by kernel_rfl
def t4:kQ Tryz.prog 4=some 1:=by kernel_rfl
def z4:iM Tryz.prog 4=some (.bool false):=by kernel_rfl
def GU(n:Nat):tZ [.bool false] n=List.replicate n (.bool false):=by
 induction n with
 |zero=>rfl
 |succ n ih=>show [.bool false]++tZ [.bool false] n=_;rw[ih,CK];rfl
def aiC{n:Nat}(h:n<=10000)(W:AW):eN Tryz.prog 135 (.af (n:Int)) (.af (n:Int)) W=some (oh W.next n,W.add (.cells (List.replicate n (.bool false)))):=by
 show eN Tryz.prog 135 (.af (Int.ofNat n)) (.af (Int.ofNat n)) W=_;unfold eN;have e:=vK (z:=.bool false) (len:=n) (n:=1) rfl;have e2:(iP (.bool false) (n*1)).toList=List.replicate n (.bool false):=by rw[e];exact GU n
 have e3:(List.replicate n (Value.bool false)).all bZ=true:=by rw[<-GU];exact rJ _ _ rfl n
 simp only[amy,t4,z4,b4];rw[e2,aq ⟨aM _,by omega,by omega,e3⟩]
def D5(ow t:Int)(a:Nat)(x:cK)(L:List Nat):(L.foldl (tN ow t a) x).v=x.v/\(L.foldl (tN ow t a) x).now=x.now/\(L.foldl (tN ow t a) x).st.length=x.st.length/\(L.foldl (tN ow t a) x).qs=x.qs:=by
 induction L generalizing x with
 |nil=>exact⟨rfl,rfl,rfl,rfl⟩
 |cons i L ih=>rw[wF];obtain⟨a,b,c,d⟩:=ih (tN ow t a x i);exact⟨a,b,c.trans (by simp[tN]),d⟩
section
variable {W0 W V:AW} {ob sb qb:Nat} {bq:Nat->Nat} {x x':cK} {sv:ad} {o:jS} {s:Int}
def dT.Q4(h:dT W0 W ob sb qb bq x sv o s):bG (.pointer (some ⟨ob,12,none⟩)) W=some (.af o.n,W):=h.ld rfl
def ZE{R:ah.Fr}{U:AW}{n:Nat}{v0 vr:ad}{K:LT->Option (ad×AW)}{G:ad×AW->Prop}(h:dT W0 U ob sb qb bq x sv o s)(hn:x.st.length=n)(hn2:n<=10000)
 (r0:R 0=v0)(r2:R 2=vr)(r3:R 3=oh U.next n)(r21:R 21=uu sb n)(r22:R 22=.af (n:Int))(r23:R 23=.af 0)
 (hK:∀R' V,R' 0=v0->R' 2=vr->R' 3=oh U.next n->Le U V->BoR V (oh U.next n) (FI x)->Ok (K (.exit 0,R',V)) G):Ok (dN (ge (fk bf) R (U.add (.cells (List.replicate n (.bool false))))) K) G:=by
 refine bz n (by omega) (λk R V=>Le U V/\U.next<V.next/\R 0=v0/\R 2=vr/\R 3=oh U.next n/\R 21=uu sb n/\R 22=.af (n:Int)/\R 23=.af (k:Int)/\∃cs,V.get U.next=some (.cells cs)/\cs.length=n/\cs.take k=((FI x).take k).map Value.bool)
  (λr=>r.1=.exit 0/\Le U r.2.2/\U.next<r.2.2.next/\r.2.1 0=v0/\r.2.1 2=vr/\r.2.1 3=oh U.next n/\r.2.2.get U.next=some (.cells ((FI x).map Value.bool)))
  ⟨(Le.refl _).add _,by rw[AW.ar];omega,r0,r2,r3,r21,r22,r23,_,AW.aH _ _,xT,by simp⟩ ?_ ?_ ?_
 ·rintro k R V hk ⟨aS,Uw,r0,r2,r3,r21,r22,r23,cs,c1,c2,c3⟩;unfold fk;have t1:decide ((k:Int)<(n:Int))=true:=dj;have t2:=λW'=>bJ W' k 1
  have e3:((k+1:Nat):Int)=(k:Int)+1:=by omega
  have hV:=h.mono aS;have ls:=hV.lsi (show k<x.st.length by omega);have PO:=PY (x:=dO x k) (AW.aH V (.cells (fo BG)));rw[jl]at PO;have l0:bG (.pointer (some ⟨V.next,0,none⟩)) (V.add (.cells (fo (dO x k))))=some (.af (dO x k).st,V.add (.cells (fo (dO x k)))):=aZ bU rfl;have g1:(V.add (.cells (fo (dO x k)))).get U.next=some (.cells cs):=(AW.aD _ _ (by omega)).trans c1;have sb1:gv 1 (.pointer (some ⟨U.next,k,none⟩)) (.bool (decide ((dO x k).st=0))) (V.add (.cells (fo (dO x k))))=some (ak,(V.add (.cells (fo (dO x k)))).put U.next (.cells (cs.set k (.bool (decide ((dO x k).st=0)))))):=by rw[zy,dJ g1,bL,kE]
  simp only[SX,r3,r21,r22,r23,t1,wX hk,ls,yF,PO,aN,l0,ixQ hk,sb1,t2,ai];refine .inl ⟨ao,(aS.add _).put (aM _) _,by rw[AW.bh,AW.ar];omega,r0,r2,r3,r21,r22,by rw[e3];rfl,_,AW.aW _ _ _,by simp[c2],?_⟩;have hkf:k<(FI x).length:=by unfold FI;rw[gV];omega
  have ef:(FI x)[k]=decide ((dO x k).st=0):=by simp only[FI,List.getElem_map];congr 2;simp[dO,bS (show k<x.st.length by omega)]
  rw[lW (show k<(cs.set k (.bool (decide ((dO x k).st=0)))).length by simp;omega),List.take_set_of_le (aM _),CP,c3,lW hkf,qI,ef];rfl
 ·rintro R V ⟨aS,Uw,r0,r2,r3,r21,r22,r23,cs,c1,c2,c3⟩;unfold fk;have t1:decide ((n:Int)<(n:Int))=false:=cN;simp only[SX,r22,r23,t1,ai];have e1:cs.take n=cs:=ve (by omega);have e2:(FI x).take n=FI x:=ve (by unfold FI;rw[gV];omega);rw[e1,e2]at c3;rw[c3]at c1;exact⟨by simp,ao,aS,Uw,r0,r2,r3,c1⟩
 ·rintro⟨e,R,V⟩ ⟨rfl,h1,h2,h3,h4,h5,h6⟩;have IX:(FI x).length=n:=by unfold FI;rw[gV];exact hn
  refine hK R V h3 h4 h5 h1 ⟨_,n,by rw[IX],.inr ⟨U.next,0,_,rfl,h2,az h6,?_⟩⟩;have e:(FI x).flatMap blC=(FI x).map Value.bool:=by
   induction FI x with
   |nil=>rfl
   |cons a l ih=>rw[gU,ih];rfl
  rw[e,jF,jE,ve (by rw[gV];exact aM _)]
def TU{R:ah.Fr}{U:AW}{a n:Nat}{t:Int}{vr:ad}{K:LT->Option (ad×AW)}{G:ad×AW->Prop}(h:dT W0 U ob sb qb bq x sv o s)(hx:a+n<=x.st.length)(hx2:x.st.length<=10000)(hn:n<=100)
 (r0:R 0=bi ob)(r2:R 2=vr)(r6:R 6=.af (a:Int))(r8:R 8=.af t)(r71:R 71=.af (n:Int))(r72:R 72=.af 0)
 (hK:∀R' V,R' 0=bi ob->R' 2=vr->R' 6=.af (a:Int)->R' 8=.af t->dT W0 V ob sb qb bq (Zz x a n o.ow t) sv o s->Fr U V sb qb->Ok (K (.exit 2,R',V)) G):Ok (dN (ge (fj bf) R U) K) G:=by
 refine bz n (by omega) (λk R V=>dT W0 V ob sb qb bq ((List.range k).foldl (tN o.ow t a) x) sv o s/\Fr U V sb qb/\R 0=bi ob/\R 2=vr/\R 6=.af (a:Int)/\R 8=.af t/\R 71=.af (n:Int)/\R 72=.af (k:Int))
  (λr=>r.1=.exit 2/\r.2.1 0=bi ob/\r.2.1 2=vr/\r.2.1 6=.af (a:Int)/\r.2.1 8=.af t/\dT W0 r.2.2 ob sb qb bq (Zz x a n o.ow t) sv o s/\Fr U r.2.2 sb qb) ⟨h,.refl _ _ _,r0,r2,r6,r8,r71,r72⟩ ?_ ?_ ?_
 ·rintro k R V hk ⟨hO,hF,r0,r2,r6,r8,r71,r72⟩;unfold fj;have t1:decide ((k:Int)<(n:Int))=true:=dj;have t2:=λW'=>bJ W' k 1
  have t3:=λW'=>jT W' a k
  have e3:((k+1:Nat):Int)=(k:Int)+1:=by omega
  have e4:(a:Int)+k=((a+k:Nat):Int):=by omega
  obtain⟨s1,s2,s3,s4⟩:=D5 o.ow t a x (List.range k);generalize hy:(List.range k).foldl (tN o.ow t a) x=y at *;have hi:a+k<y.st.length:=by omega
  have Xy:=hO.lsi hi;have uk:=IB (z:=Sr (dO y (a+k)) o.ow t) hO.gs (show y.st[a+k]? =some (dO y (a+k))by rw[bS hi];simp[dO,bS hi]);have O2:∀b,b≠sb->(V.put sb (.cells ((y.st.set (a+k) (Sr (dO y (a+k)) o.ow t)).flatMap fo))).get b=V.get b:=λb hb=>AW.ay _ _ (aV hb)
  have hf1:Fr V (V.put sb (.cells ((y.st.set (a+k) (Sr (dO y (a+k)) o.ow t)).flatMap fo))) sb qb:=⟨aM _,λb _ h1 _=>O2 b h1⟩;have HO:=hO.step (x':={y with st:=y.st.set (a+k) (Sr (dO y (a+k)) o.ow t)}) hf1 rfl rfl (by simp) rfl (AW.aW _ _ _) (hO.gq.keep (O2 _ (aV hO.ne.2.2)) λj=>O2 _ (hO.nq j).2.2.2.1);simp only[SX,r0,r6,r8,r71,r72,t1,t3,e4,aJ,aN,Nat.reduceAdd,hO.l5,wX hi,Xy,hO.l8,wk,dP,kB,ki,uk,t2,ai];refine .inl ⟨ao,?_,hF.trans hf1,r0,r2,r6,r8,r71,by rw[e3];rfl⟩;rw[ux,Ij,hy];exact HO
 ·rintro R V ⟨hO,hF,r0,r2,r6,r8,r71,r72⟩;unfold fj;have t1:decide ((n:Int)<(n:Int))=false:=cN;simp only[SX,r71,r72,t1,ai];exact⟨by simp,ao,r0,r2,r6,r8,hO,hF⟩
 ·rintro⟨e,R,V⟩ ⟨rfl,a1,a2,a3,a4,a5,a6⟩;exact hK R V a1 a2 a3 a4 a5 a6
def ui(x:cK)(k:Nat)(n:Int):Int×Int:=uE x.v k n (FI x)
def vU(x:cK)(k:Nat)(n ow:Int):cK:=if(ui x k n).2=0 then Zz x (ui x k n).1.toNat n.toNat ow (iV x.now x.v.dS)else x
def Jq(x:cK)(k:Nat)(n:Int):oE:=if(ui x k n).2=0 then rpB (ui x k n).1 n (iV x.now x.v.dS)else rK (ui x k n).2
def Tn(h:dT W0 W ob sb qb bq x sv o s)(ut:sb<ob/\qb<ob)(he:(fp x.v).2=0)(hv:x.v.aA.length<1000){k:Nat}(Qq:o.sc=(k:Int))(hk:k<x.v.aA.length)(uk:(x.st.length:Int)=bO x.v.aA)(hn:1<=o.n/\o.n<=8)(Jo:x.now<9223372036854775808)(anU:x.v.dS<9223372036854775808):
 jr W0 W ob sb qb bq sv o s 126 (vU x k o.n o.ow) (Jq x k o.n):=by
 refine jW h ut tX ?_;unfold pp;obtain⟨V,al,aS,n2,g2⟩:=j7 W;have h1:=h.mono aS;have ht:=(N4 he hk).2.2.2.2.2.1;have Nq:=h.hi;have alz:Le V (V.add (.cells (List.replicate x.st.length (.bool false)))):=(Le.refl V).add _;have Ch:=h1.mono alz;simp only[SX,al,aJ,aN,h1.l5,fZ BZ,aiC (show x.st.length<=10000 by omega),Ch.l5];refine ZE (v0:=bi ob) (vr:=bi W.next) h1 rfl (by omega) rfl rfl rfl rfl rfl rfl ?_;intro R2 V2 q0 q2 q3 q4 q5;have h2:=h1.mono q4;have IX:((FI x).length:Int)=bO x.v.aA:=by unfold FI;rw[gV];exact uk
 have UP:=Z0 (n:=o.n) (h2.sec.mono h2.le) he hv hk q5 IX hn;rw[show uE x.v k o.n (FI x)=ui x k o.n from rfl]at UP;have g3:V2.get W.next=some (.cells (oH kI)):=(q4.get _ (by omega)).trans g2;by_cases c:(ui x k o.n).2=0
 ·have e1:vU x k o.n o.ow=Zz x (ui x k o.n).1.toNat o.n.toNat o.ow (iV x.now x.v.dS):=aq c;have e2:Jq x k o.n=rpB (ui x k o.n).1 o.n (iV x.now x.v.dS):=aq c;rw[e1,e2];have nM:=Wq he hk (show(uE x.v k o.n (FI x)).2=0 from c);rw[show uE x.v k o.n (FI x)=ui x k o.n from rfl]at nM;have d:=be c;have ea:(ui x k o.n).1=(((ui x k o.n).1.toNat:Nat):Int):=by omega
  have en:o.n=((o.n.toNat:Nat):Int):=by omega
  simp only[SX,q0,q2,q3,aJ,aN,Nat.reduceAdd,h2.l4,h2.l11,Qq,h2.Q4,UP,d,h2.l1,uN h2 Jo anU];refine TU (a:=(ui x k o.n).1.toNat) (n:=o.n.toNat) (t:=iV x.now x.v.dS) (vr:=bi W.next) h2 (by omega) (by omega) (by omega) q0 q2 (by rw[<-ea];rfl) rfl (by rw[<-en];rfl) rfl ?_;intro R3 V3 z0 z2 z6 z8 zO zF;have g4:V3.get W.next=some (.cells (oH kI)):=(zF.2 _ (by have:=q4.next;omega) (by omega) (by omega)).trans g3;obtain⟨p1,p2⟩:=pJ g4 (rpB (ui x k o.n).1 o.n (iV x.now x.v.dS));rw[<-ea]at z6;simp only[SX,z0,z2,z6,z8,aJ,aN,Nat.reduceAdd,zO.Q4,abp,p1,p2,ai];exact⟨ao,eV h zO ((Fr.of_le (aS.trans q4)).trans zF) (aM _) _⟩
 ·have e1:vU x k o.n o.ow=x:=ap c;have e2:Jq x k o.n=rK (ui x k o.n).2:=ap c;rw[e1,e2];obtain⟨p1,p2⟩:=pJ g3 (rK (ui x k o.n).2);have d:=bm c;simp only[SX,q0,q2,q3,aJ,aN,Nat.reduceAdd,h2.l4,h2.l11,Qq,h2.Q4,UP,d,oR,p1,p2,ai];exact⟨ao,eV h h2 (.of_le (aS.trans q4)) (aM _) _⟩
end
def Cw(x:cK)(k:Nat):Int:=if Cm x.v k<((js x k).length:Int)then 3 else if(js x k).Nodup then 0 else 8
def qE(x:cK):Nat->Int
 |0=>0
 |k+1=>if qE x k=0 then Cw x k else qE x k
def OB{x:cK}{k n:Nat}(h:qE x k≠0)(hn:k<=n):qE x n=qE x k:=by
 induction n with
 |zero=>obtain rfl:k=0:=by omega
        rfl
 |succ n ih=>
  by_cases e:k=n+1
  ·subst e;rfl
  ·have:=ih (by omega);show(if qE x n=0 then Cw x n else qE x n)=_;rw[ap (by rw[this];exact h),this]
def seB(x:fA):Bool:= !decide (Me x=0)
def UU(x:cK):Int:=if(dh x.v).2=0 then(if x.now<0 then 7 else if(x.st.length:Int)≠(dh x.v).1 then 6 else if x.qs.length≠x.v.aA.length then 6 else if x.st.any seB=true then 6 else qE x x.qs.length)else(dh x.v).2
def Zv(y:fA)(W:AW):bf (.func (.func 96) #[] #[]) [me y] W=some (.bool (seB y),W):=by refine aX rfl ?_ AF;unfold xA seB;simp(maxDischargeDepth:=9) only[SX,MX,HX,Nat.reduceAdd,kb]
def WJ{f v:ad}{p:fA->Bool}{l:List fA}{W:AW}(h:Qm W v l)(hl:l.length<=10000)(hp:∀y,bf f [me y] W=some (.bool (p y),W)):bf (.func (.func 121) #[] #[]) [v,f] W=some (.af (oi p l),W):=by
 refine aX rfl ?_ iT;unfold eP;simp only[SX,nu h BZ];refine bz l.length (by omega) (λk R W'=>W'=W/\R 0=v/\R 1=f/\R 7=.af (l.length:Int)/\R 8=.af (k:Int)/\(l.take k).any p=false)
  (λr=>r.2.2=W/\((r.1=.exit 0/\oi p l= -1)\/(r.1=.ret/\r.2.1 4=.af (oi p l)))) ⟨rfl,rfl,rfl,rfl,rfl,rfl⟩ ?_ ?_ ?_
 ·rintro k R W' hk ⟨rfl,h0,h1,h7,h8,ha⟩;unfold cM;obtain⟨b,o,g1,-,g2⟩:=Qm.get h hk;have e1:((k:Int)<(l.length:Int)):=by omega
  have e2:(k:Int)+1=((k+1:Nat):Int):=by omega
  have ea:=bJ W' k 1;simp only[SX,h0,h1,h7,h8,e1,g1,g2 _ rfl,hp];cases hx:p l[k]
  ·simp only[SX,ea,ai];exact .inl ⟨ao,ao,h0,h1,h7,by rw[<-e2];rfl,yU hk hx ha⟩
  ·simp only[SX,ai];exact .inr ⟨by simp,ao,.inr ⟨ao,by rw[we hk hx ha];rfl⟩⟩
 ·rintro R W' ⟨rfl,h0,h1,h7,h8,ha⟩;unfold cM;have e1:¬((l.length:Int)<(l.length:Int)):=by omega
  rw[cY]at ha;simp only[SX,h7,h8,e1,ai];exact⟨by simp,ao,.inl ⟨ao,wl ha⟩⟩
 ·rintro⟨y,R,W'⟩ ⟨hW,hq⟩;simp only at hW hq;subst hW;rcases hq with⟨rfl,hq⟩|⟨rfl,h4⟩
  ·simp(maxDischargeDepth:=9) only[SX,MX,HX,hq]
  ·simp(maxDischargeDepth:=9) only[SX,MX,HX,h4]
def KW{W:AW}{v:ad}{l:List fA}(h:Qm W v l)(hl:l.length<=10000):bf (.func (.func 95) #[] #[]) [v,.func (.func 96) #[] #[]] W=some (.bool (l.any seB),W):=by refine aX rfl ?_ gO;unfold dZ;simp(maxDischargeDepth:=9) only[SX,MX,HX,WJ h hl (λy=>Zv y W),zR]
def af1:Tryz.prog.underlying 166=some (.map 43 4):=by kernel_rfl
def u35:Tryz.prog.underlying 43=some (.int .u32):=by kernel_rfl
def aez(W:AW):qu Tryz.prog 166 none W=some (.map (some W.next),W.add (.map [] 0)):=aL (by kernel_rfl) rfl
def abo{R:ah.Fr}{U:AW}{r:Nat}{n:Nat}{qv v1 v46 v47 v48:ad}{l:List Int}{K:LT->Option LT}{G:LT->Prop}(hq:QC U qv l)(hn:l.length=n)(hn2:n<=10000)(hr:r=U.next)
 (r1:R 1=v1)(Xw:R 46=v46)(T5:R 47=v47)(U0:R 48=v48)(r7:R 7=.map (some r))(r64:R 64=qv)(r65:R 65=.af (n:Int))(r66:R 66=.af 0)
 (hK:∀R' V x,Le U V->((x=.exit 3/\l.Nodup/\R' 1=v1/\R' 46=v46/\R' 47=v47/\R' 48=v48)\/(x=.ret/\¬l.Nodup/\R' 2=.af 8))->Ok (K (x,R',V)) G):Ok (dN (ge (iQ bf) R (U.add (.map [] 0))) K) G:=by
 subst hr;refine bz n (by omega) (λk R V=>Le U V/\R 1=v1/\R 46=v46/\R 47=v47/\R 48=v48/\R 7=.map (some U.next)/\R 64=qv/\R 65=.af (n:Int)/\R 66=.af (k:Int)/\(l.take k).Nodup/\∃c,Vd V U.next (λz=>if z∈l.take k then some (.bool true)else none) c)
  (λr=>Le U r.2.2/\((r.1=.exit 3/\l.Nodup/\r.2.1 1=v1/\r.2.1 46=v46/\r.2.1 47=v47/\r.2.1 48=v48)\/(r.1=.ret/\¬l.Nodup/\r.2.1 2=.af 8)))
  ⟨(Le.refl _).add _,r1,Xw,T5,U0,r7,r64,r65,r66,by simp,0,by simpa using WT⟩ ?_ ?_ ?_
 ·rintro k R V hk ⟨aS,r1,Xw,T5,U0,r7,r64,r65,r66,KD,c,hm⟩;unfold iQ;have hkl:k<l.length:=by omega
  have t1:decide ((k:Int)<(n:Int))=true:=dj;have t2:=λW'=>bJ W' k 1
  have e3:((k+1:Nat):Int)=(k:Int)+1:=by omega
  obtain⟨b,o,g1,g2,g3⟩:=QC.get hq hkl;have lk:=g3 V (aS.get _ g2);have hg:=WM hm af1 u35 z4 l[k];have YN:l.take (k+1)=l.take k++[l[k]]:=lW hkl;by_cases c0:l[k]∈l.take k
  ·rw[aq c0]at hg;simp only[SX,r7,r64,r65,r66,t1,g1,lk,hg,nA,ai];refine .inr ⟨by simp,aS,.inr ⟨ao,λhn=>?_,rfl⟩⟩;have h1:(l.take (k+1)).Nodup:=hn.sublist (List.take_sublist _ _);rw[YN,C9]at h1;exact h1.2.2 _ c0 _ (by simp) rfl
  ·rw[ap c0]at hg;obtain⟨es,cc,k1,k2⟩:=S4 hm af1 u35 l[k] (.bool true);simp only[SX,r7,r64,r65,r66,t1,g1,lk,hg,Option.getD_none,k1,t2,ai];refine .inl ⟨ao,aS.put (aM _) _,r1,Xw,T5,U0,r7,r64,r65,by rw[e3];rfl,?_,(if(if l[k]∈l.take k then some (Value.bool true)else none).isSome then c else c+1),?_⟩
   ·rw[YN,C9];refine⟨KD,by simp,λa ha b hb=>?_⟩;rw[nL]at hb;subst hb;exactλe=>c0 (e▸ha)
   ·have e:(λz=>if z∈l.take (k+1)then some (Value.bool true)else none)=λz=>if z=l[k]then some (Value.bool true)else(if z∈l.take k then some (.bool true)else none):=by
     funext z;rw[YN];by_cases h1:z=l[k]
     ·rw[aq h1,aq (by rw[h1];exact List.mem_append_right _ (List.mem_singleton_self _))]
     ·rw[ap h1];simp only[py,nL,h1,or_false]
    rw[e];exact k2
 ·rintro R V ⟨aS,r1,Xw,T5,U0,r7,r64,r65,r66,KD,c,hm⟩;unfold iQ;have t1:decide ((n:Int)<(n:Int))=false:=cN;rw[<-hn,cY]at KD;simp only[SX,r65,r66,t1,ai];exact⟨by simp,aS,.inl ⟨ao,KD,r1,Xw,T5,U0⟩⟩
 ·rintro⟨e,R,V⟩ ⟨h1,h2⟩;exact hK R V e h1 h2
def Of{W:AW}{x:cK}{sv sq qq:ad}(hs:iO W sv x.v.aA)(hv:x.v.aA.length<1000)(wu:Qm W sq x.st)(hq:Rc W qq x.qs)(hn:x.st.length<=10000)(hqn:x.qs.length<=10000)(hl:∀l∈x.qs,l.length<=10000):
 bf (.func (.func 56) #[] #[]) [oA x sv sq qq] W=some (.af (UU x),W):=by
 refine aX rfl ?_ Ek;unfold BX UU;obtain⟨V,hV⟩:∃V,V=W.add (.cells (pI x sv sq qq)):=⟨_,rfl⟩;have aS:Le W V:=by rw[hV];exact(Le.refl W).add _
 have g1:V.get W.next=some (.cells (pI x sv sq qq)):=by rw[hV];exact AW.aH _ _
 have nV:V.next=W.next+1:=by rw[hV];rfl
 have l4:fd 4 (.pointer (some ⟨W.next,0,none⟩)) V=some (kP x.v sv,V):=bV (az g1) rfl;have l3:∀U,Le V U->bG (.pointer (some ⟨W.next,3,none⟩)) U=some (sv,U):=λU hU=>aZ (az ((hU.get _ (by omega)).trans g1)) rfl
 have ln:bG (.pointer (some ⟨W.next,4,none⟩)) V=some (.af x.now,V):=aZ (az g1) rfl;have l5:bG (.pointer (some ⟨W.next,5,none⟩)) V=some (sq,V):=aZ (az g1) rfl;have l6:bG (.pointer (some ⟨W.next,6,none⟩)) V=some (qq,V):=aZ (az g1) rfl;have uk:=Fp (W:=V) (hs.mono aS) hv;simp only[SX];rw[<-hV];clear hV;simp only[SX,aN,l4,uk];by_cases c1:(dh x.v).2=0;case neg=>have d:=bm c1;simp only[SX,d,ap c1,ai];exact⟨ao,aS⟩
 have d1:=be c1;rw[aq c1];by_cases c2:x.now<0
 ·have d:=be c2;simp only[SX,d1,ln,d,aq c2,ai];exact⟨ao,aS⟩
 have d2:=bm c2;rw[ap c2];have lq:=Row.len hq Fs;have Xy:=nu wu BZ;by_cases c3:(x.st.length:Int)≠(dh x.v).1
 ·have d:=bm c3;simp only[SX,d1,ln,d2,l5,Xy,d,aq c3,ai];exact⟨ao,aS⟩
 have d3:decide ((x.st.length:Int)=(dh x.v).1)=true:=be (HK.1 c3);rw[ap c3];by_cases c4:x.qs.length≠x.v.aA.length
 ·have d:decide ((x.qs.length:Int)=(x.v.aA.length:Int))=false:=cN;simp only[SX,d1,aN,ln,d2,l5,Xy,d3,l6,lq,l3 _ (Le.refl _),Row.len hs.1 L3,d,aq c4,ai];exact⟨ao,aS⟩
 have d4:decide ((x.qs.length:Int)=(x.v.aA.length:Int))=true:=dj;rw[ap c4];by_cases c5:x.st.any seB=true
 ·simp only[SX,d1,aN,ln,d2,l5,Xy,d3,l6,lq,l3 _ (Le.refl _),Row.len hs.1 L3,d4,KW (wu.keep aS) hn,c5,ba,ai];exact⟨ao,aS⟩
 have c5':x.st.any seB=false:=zn.2 c5;rw[ap c5];simp only[SX,d1,aN,ln,d2,l5,Xy,d3,l6,lq,l3 _ (Le.refl _),Row.len hs.1 L3,d4,KW (wu.keep aS) hn,c5'];refine bz x.qs.length (by omega) (λk R U=>Le V U/\R 1=bi W.next/\R 46=qq/\R 47=.af (x.qs.length:Int)/\R 48=.af (k:Int)/\qE x k=0)
  (λr=>Le V r.2.2/\((r.1=.exit 1/\qE x x.qs.length=0)\/(r.1=.ret/\r.2.1 2=.af (qE x x.qs.length)))) ⟨Le.refl _,rfl,rfl,rfl,rfl,rfl⟩ ?_ ?_ ?_
 ·rintro k R U hk ⟨hU,r1,Xw,T5,U0,hz⟩;unfold po;have t1:decide ((k:Int)<(x.qs.length:Int))=true:=dj;have t2:=λW'=>bJ W' k 1
  have e3:((k+1:Nat):Int)=(k:Int)+1:=by omega
  obtain⟨b,i,u,p1,p2,p3,p4⟩:=hq.get hk;have lu:=p4 U ((aS.trans hU).get _ p2);have Y3:k<x.v.aA.length:=by omega
  obtain⟨b',i',rv,s1,-,-,-,-,s5⟩:=jD.get hs.1 Y3;have e0:x.qs[k]=js x k:=by simp[js,bS hk]
  have eq0:x.v.aA[k].q=Cm x.v k:=by unfold Cm;rw[bS Y3];rfl
  have s5':=s5 U (aS.trans hU);rw[eq0]at s5';rw[e0]at p3;have ul:=nu p3 xN;have B5:qE x (k+1)=Cw x k:=by show(if qE x k=0 then Cw x k else qE x k)=_;rw[aq hz]
  by_cases c6:Cm x.v k<((js x k).length:Int)
  ·have d:=be c6;simp only[SX,r1,Xw,T5,U0,t1,p1,lu,ul,aN,l3 _ hU,s1,s5',d,ai];have hb:Cw x k=3:=aq c6;refine .inr ⟨by simp,hU,.inr ⟨ao,?_⟩⟩;rw[OB (k:=k+1) (by rw[B5,hb];decide) (by omega),B5,hb];rfl
  ·have d:=bm c6;simp only[SX,r1,Xw,T5,U0,t1,p1,lu,ul,aN,l3 _ hU,s1,s5',d,aez];refine abo (U:=U) (r:=U.next) (n:=(js x k).length) (qv:=u) (v1:=bi W.next) (v46:=qq) (v47:=.af (x.qs.length:Int)) (v48:=.af (k:Int)) (p3.keep (aS.trans hU)) rfl (by rw[<-e0];exact hl _ (ez _)) rfl r1 Xw T5 U0 rfl rfl rfl rfl ?_;intro R' V' e hV' hr;rcases hr with⟨rfl,KD,q1,q46,q47,q48⟩|⟨rfl,KD,q2⟩
   ·have hb:Cw x k=0:=by unfold Cw;rw[ap c6,aq KD]
    simp only[SX,q48,t2,ai];exact .inl ⟨ao,hU.trans hV',q1,q46,q47,by rw[e3];rfl,by rw[B5,hb]⟩
   ·have hb:Cw x k=8:=by unfold Cw;rw[ap c6,ap KD]
    simp only[SX,ai];refine .inr ⟨by simp,hU.trans hV',.inr ⟨ao,?_⟩⟩;rw[OB (k:=k+1) (by rw[B5,hb];decide) (by omega),B5,hb];exact q2
 ·rintro R U ⟨hU,r1,Xw,T5,U0,hz⟩;unfold po;have t1:decide ((x.qs.length:Int)<(x.qs.length:Int))=false:=cN;simp only[SX,T5,U0,t1,ai];exact⟨by simp,hU,.inl ⟨ao,hz⟩⟩
 ·rintro⟨e,R,U⟩ ⟨hU,hr⟩;rcases hr with⟨rfl,hz⟩|⟨rfl,hz⟩
  ·simp only[SX,hz,ai];exact⟨ao,aS.trans hU⟩
  ·simp only at hz;simp only[SX,hz,ai];exact⟨ao,aS.trans hU⟩
def L0(x:cK)(nw:Int):∃L,vi x nw L:=by
 classical
 refine⟨(fS x nw).mergeSort (λa b=>decide (Sq x a b\/a=b)),Dm _ _,?_⟩;have h1:=List.pairwise_mergeSort (le:=λa b=>decide (Sq x a b\/a=b)) (λa b c h1 h2=>by
  simp only[gG]at *;rcases h1 with h1|rfl
  ·rcases h2 with h2|rfl
   ·exact .inl (GF.trans h1 h2)
   ·exact .inl h1
  ·exact h2) (λa b=>by
  simp only[mJ,gG];unfold Sq GF;omega) (fS x nw);have h2:((fS x nw).mergeSort (λa b=>decide (Sq x a b\/a=b))).Nodup:=(Dm _ _).nodup_iff.2 ((List.nodup_range (n:=x.st.length)).filter _);refine(h1.and h2).imp λ{a b} hh=>?_
 have h3:=hh.1;simp only[gG]at h3;rcases h3 with h3|h3
 ·exact h3
 ·exact absurd h3 hh.2
def Zy(x:cK)(nw:Int):List Nat:=Classical.choose (L0 x nw)
def Yr(x:cK)(nw:Int):vi x nw (Zy x nw):=sQ (L0 x nw)
def cz(o:jS):Int:=(DD o.k o.se o.sc o.t1 0).1
def sk(o:jS):Int:=(DD o.k o.se o.sc o.t1 0).2.1
def cQ(x:cK)(o:jS):cK×oE:=
 if o.k=1 then(x,Z8 (iV x.now x.v.g9))else
 if o.k=2 then(HB x (cz o).toNat (Sr (dO x (cz o).toNat) o.ow (iV x.now x.v.dS)) (Pl (dO x (cz o).toNat) (iV x.now x.v.dS)),hoR (Pl (dO x (cz o).toNat) (iV x.now x.v.dS)) (iV x.now x.v.dS))else
 if o.k=3 then(vU x (sk o).toNat o.n o.ow,Jq x (sk o).toNat o.n)else
 if o.k=4 then(Og x (cz o).toNat (VW (dO x (cz o).toNat) o.ow) (qd (dO x (cz o).toNat) o.ow),rK (qd (dO x (cz o).toNat) o.ow))else
 if o.k=5 then(HB x (cz o).toNat (JK (dO x (cz o).toNat) o.ow) (Ia (dO x (cz o).toNat) o.ow),Xh (cz o).toNat (JK (dO x (cz o).toNat) o.ow) (Ia (dO x (cz o).toNat) o.ow))else
 if o.k=6 then(HB x (cz o).toNat (trS (dO x (cz o).toNat) (CD o) o.to) (trE (dO x (cz o).toNat) (CD o)),Xh (cz o).toNat (trS (dO x (cz o).toNat) (CD o) o.to) (trE (dO x (cz o).toNat) (CD o)))else
 if o.k=7 then(Og x (cz o).toNat (rfS (dO x (cz o).toNat) (CD o)) (Jv (dO x (cz o).toNat) (CD o)),rK (Jv (dO x (cz o).toNat) (CD o)))else
 if o.k=8 then(Og x (cz o).toNat (rvS (dO x (cz o).toNat)) (rvE (dO x (cz o).toNat)),rK (rvE (dO x (cz o).toNat)))else
 if o.k=9 then(x,rK (Jv (dO x (cz o).toNat) (CD o)))else
 if o.k=10 then(zM x (sk o).toNat o.ow,Dn x (sk o).toNat o.ow)else
 if o.k=11 then(vI x (sk o).toNat o.ow,I6 x (sk o).toNat o.ow)else
 if o.nw<x.now then(x,rK 18)else(K9 x o.nw (Zy x o.nw),kI)
def UG(x:cK)(o:jS):Int:=wrE x.now (cz o) (sk o) (x.st.length:Int) (x.qs.length:Int) o
def B9(x:cK)(o:jS):cK×oE×Int:=
 if Gq o=0 then(if UG x o=0 then(if(cQ x o).2.er=0 then((cQ x o).1,(cQ x o).2,0)else(x,(cQ x o).2,0))else(x,rK (UG x o),0))else(x,kI,Gq o)
def Cg(x:cK)(o:jS):cK×oE×Int:=if UU x=0 then B9 x o else(x,kI,UU x)
structure MdG (x:cK):Prop where
 Hh:(fp x.v).2=0
 now:0<=x.now
 st:(x.st.length:Int)=bO x.v.aA
 qs:x.qs.length=x.v.aA.length
 se:∀y∈x.st,Me y=0
 q:∀k,k<x.qs.length->(js x k).length<=64/\(js x k).Nodup
def Uo{x:cK}:∀{n:Nat},qE x n=0->∀k,k<n->Cw x k=0
 |0,_,k,hk=>by omega
 |n+1,h,k,hk=>by
  have h':(if qE x n=0 then Cw x n else qE x n)=0:=h;by_cases c:qE x n=0
  ·rw[aq c]at h';by_cases e:k=n
   ·subst e;exact h'
   ·exact Uo c k (by omega)
  ·rw[ap c]at h';exact absurd h' c
def aaI{x:cK}(h:UU x=0):MdG x:=by
 unfold UU at h;have hv:(fp x.v).2=0:=by
  by_cases c:(fp x.v).2=0
  ·exact c
  ·exfalso;have e:(dh x.v).2≠0:=by unfold dh;rw[ap c];exact c
   rw[ap e]at h;exact e h
 have e2:(dh x.v).2=0:=by unfold dh;rw[aq hv]
 have e1:(dh x.v).1=bO x.v.aA:=by unfold dh;rw[aq hv]
 rw[aq e2]at h;by_cases c1:x.now<0
 ·rw[aq c1]at h;exact absurd h (by decide)
 rw[ap c1]at h;by_cases c2:(x.st.length:Int)≠(dh x.v).1
 ·rw[aq c2]at h;exact absurd h (by decide)
 rw[ap c2]at h;by_cases c3:x.qs.length≠x.v.aA.length
 ·rw[aq c3]at h;exact absurd h (by decide)
 rw[ap c3]at h;by_cases c4:x.st.any seB=true
 ·rw[aq c4]at h;exact absurd h (by decide)
 rw[ap c4]at h;have hqs:x.qs.length=x.v.aA.length:=HK.1 c3;refine⟨hv,by omega,by rw[<-e1];exact HK.1 c2,hqs,λy hy=>?_,λk hk=>?_⟩
 ·have c5:=zn.2 c4;rw[CO]at c5;have:=c5 y hy;unfold seB at this;simpa using this
 ·have hb:=Uo h k hk;unfold Cw at hb;by_cases c6:Cm x.v k<((js x k).length:Int)
  ·rw[aq c6]at hb;exact absurd hb (by decide)
  rw[ap c6]at hb;have KD:(js x k).Nodup:=by
   by_cases c7:(js x k).Nodup
   ·exact c7
   ·rw[ap c7]at hb;exact absurd hb (by decide)
  refine⟨?_,KD⟩;have Y3:k<x.v.aA.length:=by omega
  obtain⟨-,-,-,Gb,-,-⟩:=df hv;have hq:Cm x.v k=x.v.aA[k].q:=by unfold Cm;rw[bS Y3];rfl
  have hz:wT x.v.aA[k] (x.v.aA.take k)=0:=by
   have ah0:m9 x.v.aA k=none:=by
    cases e:m9 x.v.aA k with
    |none=>rfl
    |some r=>rw[rt e (by omega:k<=x.v.aA.length)]at Gb;cases Gb
   have B5:=AT ah0 Y3;by_cases e:wT x.v.aA[k] (x.v.aA.take k)=0
   ·exact e
   ·rw[ap e]at B5;rw[rt B5 (by omega:k+1<=x.v.aA.length)]at Gb;cases Gb
  have:=(wi hz).2.2.2.2.2;omega
def aiP{v:fc}(h:(fp v).2=0):1<=v.dS/\v.dS<=1000000000/\1<=v.g9/\v.g9<=1000000000/\1<=v.sh/\v.sh<=16:=by have:=(df h).2.1;unfold Dg pi at this;simp at this;omega
def aac{v:fc}(he:(fp v).2=0){s:Nat}(hs:(s:Int)<bO v.aA):xG v s<v.aA.length:=by
 obtain⟨hg,-,-,-,ht,-⟩:=df he;have hl:=MO hg;unfold xG;rw[<-Ry];unfold AG;have e2:(dh v).2=0:=by unfold dh;rw[aq he]
 have e1:(dh v).1=bO v.aA:=by unfold dh;rw[aq he]
 rw[aq e2,e1,bK];simp only[sL];have Z1:s<(pu v.aA).length:=by omega
 have hm:(pu v.aA).getD s (0,0,0)∈pu v.aA:=by rw[lh,bS Z1];exact ez _
 generalize(pu v.aA).getD s (0,0,0)=q at hm;rw[BA]at hm;obtain⟨r,hr,hq⟩:=List.mem_flatMap.1 hm;unfold DH at hq;obtain⟨j,-,rfl⟩:=mE.1 hq;exact(rH hr).1
def Yn{x:cK}{o:jS}(hk:o.k=2\/o.k=4\/o.k=5\/o.k=6\/o.k=7\/o.k=8\/o.k=9)(h:UG x o=0):0<=cz o/\cz o<(x.st.length:Int):=by
 unfold UG wrE DX scE at h;rw[bK]at h;split at h
 ·omega
 split at h
 ·omega
 rw[bK]at h;split at h<;>omega
def Nj{x:cK}{o:jS}(hk:o.k=3\/o.k=10\/o.k=11)(h:UG x o=0):0<=sk o/\sk o<(x.qs.length:Int)/\(o.k=3->1<=o.n/\o.n<=8)/\o.sc=sk o:=by
 have e:sk o=o.sc:=by unfold sk DD;rw[ap (by simp),bK,bK,aq hk]
 rw[e];unfold UG wrE DX scE at h;rw[e]at h;rw[bK]at h;split at h
 ·omega
 split at h
 ·omega
 split at h
 ·omega
 split at h<;>omega
def ZX{W0 U:AW}{ob sb qb:Nat}{bq:Nat->Nat}{x:cK}{sv:ad}{o:jS}(h:dT W0 U ob sb qb bq x sv o (cz o))(hx:S2 U qb bq x.qs)(ut:sb<ob/\qb<ob/\∀k,bq k<ob)(hg:MdG x)(hk:1<=o.k/\o.k<=12)(hw:UG x o=0)(Jo:x.now<9223372036854775808)(xx:o.nw<9223372036854775808):
 jr W0 U ob sb qb bq sv o (cz o) (123+o.k.toNat) (cQ x o).1 (cQ x o).2:=by
 have hvb:=aiP hg.Hh;obtain⟨Um,-,Z1,-,aqs,-⟩:=df hg.Hh;have eG:=Um.len;have uk:=hg.st;have hqs:=hg.qs;have ED:sb<ob/\qb<ob:=⟨ut.1,ut.2.1⟩;have bF:(o.k=2\/o.k=4\/o.k=5\/o.k=6\/o.k=7\/o.k=8\/o.k=9)->cz o=(((cz o).toNat:Nat):Int)/\Bd x (cz o).toNat/\(cz o).toNat<4294967296:=λhk=>by obtain⟨h1,h2⟩:=Yn hk hw;refine⟨by omega,⟨by omega,?_,by omega,Jo,by omega,by omega⟩,by omega⟩;rw[hqs];exact aac hg.Hh (by omega)
 have hh:∀{s:Nat},cz o=(s:Int)->dT W0 U ob sb qb bq x sv o (s:Int):=λe=>by rw[<-e];exact h
 have hl:∀k,k<x.qs.length->(js x k).length<=1000:=λk hk=>by have:=(hg.q k hk).1;omega
 rcases(by omega:o.k=1\/o.k=2\/o.k=3\/o.k=4\/o.k=5\/o.k=6\/o.k=7\/o.k=8\/o.k=9\/o.k=10\/o.k=11\/o.k=12)with k|k|k|k|k|k|k|k|k|k|k|k
 ·have e:cQ x o=(x,Z8 (iV x.now x.v.g9)):=by unfold cQ;rw[aq k]
  rw[e,show 123+o.k.toNat=124 by rw[k];rfl];exact P6 h ED Jo (show x.v.g9<9223372036854775808 by omega)
 ·obtain⟨e1,e2,e3⟩:=bF (by omega);have e:=cQ.eq_1 x o;simp only[k,Int.reduceEq,ba,cV]at e;rw[e,show 123+o.k.toNat=125 by rw[k];rfl];generalize(cz o).toNat=s at *;rw[e1]at h|-;exact QF h ED e2
 ·obtain⟨e1,e2,e3,e4⟩:=Nj (by omega) hw;have e:=cQ.eq_1 x o;simp only[k,Int.reduceEq,ba,cV]at e;rw[e,show 123+o.k.toNat=126 by rw[k];rfl];exact Tn h ED hg.Hh (by omega) (by rw[e4];omega) (by omega) uk (e3 k) Jo (by omega)
 ·obtain⟨e1,e2,e3⟩:=bF (by omega);have e:=cQ.eq_1 x o;simp only[k,Int.reduceEq,ba,cV]at e;rw[e,show 123+o.k.toNat=127 by rw[k];rfl];generalize(cz o).toNat=s at *;rw[e1]at h|-;exact I5 h ED e2
 ·obtain⟨e1,e2,e3⟩:=bF (by omega);have e:=cQ.eq_1 x o;simp only[k,Int.reduceEq,ba,cV]at e;rw[e,show 123+o.k.toNat=128 by rw[k];rfl];generalize(cz o).toNat=s at *;rw[e1]at h|-;exact VG h ED e2 e3
 ·obtain⟨e1,e2,e3⟩:=bF (by omega);have e:=cQ.eq_1 x o;simp only[k,Int.reduceEq,ba,cV]at e;rw[e,show 123+o.k.toNat=129 by rw[k];rfl];generalize(cz o).toNat=s at *;rw[e1]at h|-;exact FJ h ED e2 e3
 ·obtain⟨e1,e2,e3⟩:=bF (by omega);have e:=cQ.eq_1 x o;simp only[k,Int.reduceEq,ba,cV]at e;rw[e,show 123+o.k.toNat=130 by rw[k];rfl];generalize(cz o).toNat=s at *;rw[e1]at h|-;exact Lf h ED e2
 ·obtain⟨e1,e2,e3⟩:=bF (by omega);have e:=cQ.eq_1 x o;simp only[k,Int.reduceEq,ba,cV]at e;rw[e,show 123+o.k.toNat=131 by rw[k];rfl];generalize(cz o).toNat=s at *;rw[e1]at h|-;exact J9 h ED e2
 ·obtain⟨e1,e2,e3⟩:=bF (by omega);have e:=cQ.eq_1 x o;simp only[k,Int.reduceEq,ba,cV]at e;rw[e,show 123+o.k.toNat=132 by rw[k];rfl];generalize(cz o).toNat=s at *;rw[e1]at h|-;exact NI h ED e2
 ·obtain⟨e1,e2,e3,e4⟩:=Nj (by omega) hw;have e:=cQ.eq_1 x o;simp only[k,Int.reduceEq,ba,cV]at e;rw[e,show 123+o.k.toNat=133 by rw[k];rfl];exact Zc h hx ut (by omega) (by rw[e4];omega) (by omega) (hl _ (by omega))
 ·obtain⟨e1,e2,e3,e4⟩:=Nj (by omega) hw;have e:=cQ.eq_1 x o;simp only[k,Int.reduceEq,ba,cV]at e;rw[e,show 123+o.k.toNat=134 by rw[k];rfl];exact TC h hx ut (by omega) (by rw[e4];omega) (hl _ (by omega))
 ·have e:=cQ.eq_1 x o;simp only[k,Int.reduceEq,cV]at e;rw[e,show 123+o.k.toNat=135 by rw[k];rfl];by_cases c:o.nw<x.now
  ·rw[aq c];exact K7 h ED c
  ·rw[ap c];obtain⟨L,hL,hD⟩:=XV h ED ⟨by omega,hg.se,hg.now,xx,by omega,by omega,λi hi=>by rw[hqs];exact aac hg.Hh (by omega)⟩ c;rw[(Yr x o.nw).one hL];exact hD
def CE(Z W:AW)(val:ad)(x:cK):Prop:=∃sv sq qq,val=oA x sv sq qq/\iO Z sv x.v.aA/\Qm W sq x.st/\Rc W qq x.qs
abbrev adn(W:AW)(val:ad)(x:cK):Prop:=CE W W val x
def CE.mono{Z W W':AW}{val:ad}{x:cK}(h:CE Z W val x)(aS:Le W W'):CE Z W' val x:=by obtain⟨sv,sq,qq,e,h1,h2,h3⟩:=h;exact⟨sv,sq,qq,e,h1,h2.keep aS,h3.mono aS⟩
def CE.at{Z W:AW}{val:ad}{x:cK}(h:CE Z W val x)(hz:Le Z W):adn W val x:=by obtain⟨sv,sq,qq,e,h1,h2,h3⟩:=h;exact⟨sv,sq,qq,e,h1.mono hz,h2,h3⟩
def MdK(Z W V:AW)(val:ad)(x:cK):Prop:=∀U,V.next<=U.next->(∀b,b<Z.next\/W.next<=b->b<V.next->U.get b=V.get b)->CE Z U val x
def MdK.at{Z W V:AW}{val:ad}{x:cK}(h:MdK Z W V val x):CE Z V val x:=h V (aM _) λ_ _ _=>rfl
def MdR(Z W V:AW)(v0:ad)(x0:cK)(val:ad)(x:cK):Prop:=(val=v0/\x=x0)\/MdK Z W V val x
def MdR.at{Z W V:AW}{v0 val:ad}{x0 x:cK}(h:MdR Z W V v0 x0 val x)(h0:CE Z V v0 x0):CE Z V val x:=by
 rcases h with⟨rfl,rfl⟩|h
 ·exact h0
 ·exact h.at
def QA.rd{W:AW}{u:ad}{l:List Int}{B:Nat}(h:QA W u l B)(hB:B<W.next):QC W u l:=by
 rcases h with⟨rfl,rfl|⟨a,rfl⟩⟩|⟨o,cs,rfl,h2,h3⟩
 ·exact⟨_,_,rfl,.inl rfl⟩
 ·exact⟨_,_,rfl,.inl rfl⟩
 ·exact⟨_,_,rfl,.inr ⟨B,o,cs,rfl,hB,az h2,by rw[jE,h3,vB]⟩⟩
def abc(x:cK)(sv sq qq:ad)(o:jS)(s:Int)(W:AW):dX Tryz.prog 170 [(0,oA x sv sq qq),(1,Jm o),(2,.af s)] W=some (.agg (IU x.v sv x.now sq qq o s).toArray,W):=aL (by kernel_rfl) rfl
def Wn:Array ad:=#[.nilFunc,.func (.func 124) #[] #[],.func (.func 125) #[] #[],.func (.func 126) #[] #[],.func (.func 127) #[] #[],.func (.func 128) #[] #[],.func (.func 129) #[] #[],.func (.func 130) #[] #[],.func (.func 131) #[] #[],.func (.func 132) #[] #[],.func (.func 133) #[] #[],.func (.func 134) #[] #[],.func (.func 135) #[] #[]]
abbrev J8:ad:=.agg Wn
def VK(W:AW):∃W',bf (.func (.func 101) #[] #[]) [] W=some (J8,W')/\Le W W':=by
 have:Ok (xM bf W) λr=>r.1=J8/\Le W r.2:=by
  unfold xM;have a1:cl Tryz.prog 172 W=some (bi W.next,W.add (.cells (List.replicate 13 .nilFunc))):=aL (by kernel_rfl) rfl;have a2:∀V,dX Tryz.prog 172 [(1,rB 124),(2,rB 125),(3,rB 126),(4,rB 127),(5,rB 128),(6,rB 129),(7,rB 130),(8,rB 131),(9,rB 132),(10,rB 133),(11,rB 134),(12,rB 135)] V=some (J8,V):=λV=>aL (by kernel_rfl) rfl
  simp only[UR]at a2;have a3:∀(x:ad) V,fR Tryz.prog 172 x V=fd 13 x V:=λx V=>by kernel_rfl
  have st:=kJ (n:=13) (b:=W.next) (vs:=Wn) (AW.aH W (.cells (List.replicate 13 .nilFunc))) rfl rfl rfl;rw[jl]at st;have st':gv 13 (bi W.next) J8 (W.add (.cells (List.replicate 13 .nilFunc)))=_:=st;have ld:=bV (n:=13) (o:=0) (W:=W.add (.cells Wn.toList)) bU rfl;simp only[↓PX,SX,a1,a2,st',zD,a3,ld,bL,ai];exact⟨rfl,(Le.refl W).add _⟩
 obtain⟨⟨v,V⟩,h1,rfl,h2⟩:=this;exact⟨V,by rw[F8 h1,pC rfl],h2⟩
def abm{o:jS}(hk:1<=o.k/\o.k<=12)(W:AW):px Tryz.prog 172 J8 (.af o.k) W=some (.func (.func (123+o.k.toNat)) #[] #[],W):=by rcases(by omega:o.k=1\/o.k=2\/o.k=3\/o.k=4\/o.k=5\/o.k=6\/o.k=7\/o.k=8\/o.k=9\/o.k=10\/o.k=11\/o.k=12)with k|k|k|k|k|k|k|k|k|k|k|k<;>rw[k]<;>exact aL (by kernel_rfl) rfl
def Ee{α:Type}{z:Nat}{f:α->List ad}{W:AW}{v:ad}{l:List α}(h:Rd W z f v l):Eng.one v=true:=by obtain⟨a,c,rfl,-⟩:=h;rfl
def row_one{α:Type}{z:Nat}{f:List ad->Nat->α->Prop}{W:AW}{v:ad}{l:List α}(h:Row W z f v l):Eng.one v=true:=by obtain⟨a,c,rfl,-⟩:=h;rfl
def S8{o:jS}(h:Gq o=0):1<=o.k/\o.k<=12:=by
 unfold Gq H3 at h;split at h
 ·exact absurd h (by decide)
 ·omega
def acK{o:jS}(h:Gq o=0):DD o.k o.se o.sc o.t1 (Gq o)=(cz o,sk o,0):=by
 have e3:(DD o.k o.se o.sc o.t1 0).2.2=0:=by
  unfold DD;rw[ap (by simp)];repeat' split
  all_goals rfl
 rw[h];exact Prod.ext rfl (Prod.ext rfl e3)
def D2{V:AW}{b2 b3:Nat}{x:cK}{sv sq qq:ad}{c2:List ad}{r0:oE}(h1:Eng.one sv=true)(h2:Eng.one sq=true)(h3:Eng.one qq=true)(g2:V.get b2=some (.cells c2))(hc:c2.length=7)(g3:V.get b3=some (.cells (oH r0)))(ee:b2≠b3)(r:oE)(e:ad):
 ∃V1 V2,gv 7 (bi b2) (oA x sv sq qq) V=some (ak,V1)/\V1.get b3=some (.cells (oH r0))/\(∀b,b≠b2->V1.get b=V.get b)/\gv 9 (bi b3) (lC r) V1=some (ak,V2)/\iS Tryz.prog [(bi b2,some 34),(bi b3,some 50),(e,none)] V2=some (.tuple #[oA x sv sq qq,lC r,e],V2)/\V2.next=V.next/\∀b,b≠b2->b≠b3->V2.get b=V.get b:=by
 have s1:=kJ (W:=V) (b:=b2) (n:=7) (vs:=(pI x sv sq qq).toArray) g2 hc rfl (by simp[eK,h1,h2,h3,gH]);obtain⟨V1,yj⟩:∃V1,V1=V.put b2 (.cells (pI x sv sq qq)):=⟨_,rfl⟩;have k3:V1.get b3=some (.cells (oH r0)):=by rw[yj];exact(AW.ay _ _ ee).trans g3
 have k2:V1.get b2=some (.cells (pI x sv sq qq)):=by rw[yj];exact AW.aW _ _ _
 have s2:=kJ (W:=V1) (b:=b3) (n:=9) (vs:=(oH r).toArray) k3 rfl rfl rfl;obtain⟨V2,Mh⟩:∃V2,V2=V1.put b3 (.cells (oH r)):=⟨_,rfl⟩;have m3:V2.get b3=some (.cells (oH r)):=by rw[Mh];exact AW.aW _ _ _
 have m2:V2.get b2=some (.cells (pI x sv sq qq)):=by rw[Mh];exact(AW.ay _ _ (aV ee)).trans k2
 refine⟨V1,V2,by rw[yj];exact s1,k3,λb hb=>by rw[yj];exact AW.ay _ _ (aV hb),by rw[Mh];exact s2,?_,by rw[Mh,yj];rfl,λb hb nD=>by rw[Mh,yj];exact(AW.ay _ _ (aV nD)).trans (AW.ay _ _ (aV hb))⟩;rw[zz,O9,aaW,bV (n:=7) (o:=0) (az m2) rfl,bL,bV (n:=9) (o:=0) (az m3) rfl];rfl
def WR(x:cK)(o:jS):(cQ x o).1.v=x.v:=by
 have Eo:∀(y:cK) i,(sf y i).v=y.v:=λy i=>(AP y i).1
 have Ap:∀s y e,(Og x s y e).v=x.v:=λs y e=>by
  unfold Og;split
  ·exact Eo _ _
  ·rfl
 have hch:∀s y e,(HB x s y e).v=x.v:=λs y e=>by unfold HB;split<;>rfl
 have e:=cQ.eq_1 x o;by_cases k1:o.k=1
 ·rw[aq k1]at e;rw[e]
 rw[ap k1]at e;by_cases k2:o.k=2
 ·rw[aq k2]at e;rw[e];exact hch _ _ _
 rw[ap k2]at e;by_cases k3:o.k=3
 ·rw[aq k3]at e;rw[e];show(vU x _ _ _).v=x.v;unfold vU;split
  ·exact(D5 _ _ _ _ _).1
  ·rfl
 rw[ap k3]at e;by_cases k4:o.k=4
 ·rw[aq k4]at e;rw[e];exact Ap _ _ _
 rw[ap k4]at e;by_cases k5:o.k=5
 ·rw[aq k5]at e;rw[e];exact hch _ _ _
 rw[ap k5]at e;by_cases k6:o.k=6
 ·rw[aq k6]at e;rw[e];exact hch _ _ _
 rw[ap k6]at e;by_cases k7:o.k=7
 ·rw[aq k7]at e;rw[e];exact Ap _ _ _
 rw[ap k7]at e;by_cases k8:o.k=8
 ·rw[aq k8]at e;rw[e];exact Ap _ _ _
 rw[ap k8]at e;by_cases k9:o.k=9
 ·rw[aq k9]at e;rw[e]
 rw[ap k9]at e;by_cases Ss:o.k=10
 ·rw[aq Ss]at e;rw[e];show(zM x _ _).v=x.v;unfold zM;split<;>rfl
 rw[ap Ss]at e;by_cases k11:o.k=11
 ·rw[aq k11]at e;rw[e];show(vI x _ _).v=x.v;unfold vI;split<;>rfl
 rw[ap k11]at e;rw[e];split
 ·rfl
 ·exact(Br _ _ _).1
def ail{W0 W:AW}{x:cK}{o:jS}{val:ad}(hG:GW W)(Ye:CE W0 W val x)(SB:Le W0 W)(hx:UU x=0)(Jo:x.now<9223372036854775808)(xx:o.nw<9223372036854775808):
 ∃iU W',bf (.func (.func 57) #[] #[]) [val,Jm o] W=some (.tuple #[iU,lC (B9 x o).2.1,.af (B9 x o).2.2],W')/\Le W W'/\MdR W0 W W' val x iU (B9 x o).1:=by
 obtain⟨sv,sq,qq,rfl,Hc,wu,hq⟩:=id Ye;have hs:=Hc.mono SB;have akA:=SB.next;have hg:=aaI hx;have Zm:=row_one hs.1;have air:=Ee wu;have afz:=row_one hq;have sX:Ok (DJ bf (oA x sv sq qq) (Jm o) W) λr=>∃iU,r.1=.tuple #[iU,lC (B9 x o).2.1,.af (B9 x o).2.2]/\Le W r.2/\MdR W0 W r.2 (oA x sv sq qq) x iU (B9 x o).1:=by
  unfold DJ;obtain⟨V,hV⟩:∃V,V=(((W.add (.cells (pI x sv sq qq))).add (.cells (Mj o))).add (.cells [.af 0,.af 0,.af 0,.slice none 0 0,.af 0,.slice none 0 0,.slice none 0 0])).add (.cells (oH kI)):=⟨_,rfl⟩;have aS:Le W V:=by rw[hV];exact((((Le.refl W).add _).add _).add _).add _
  have c0:aC V W.next=some (pI x sv sq qq):=by rw[hV];simp(maxDischargeDepth:=9) only[MX,HX,Nat.reduceAdd,Nat.reduceEqDiff]
  have c1:aC V (W.next+1)=some (Mj o):=by rw[hV];simp(maxDischargeDepth:=9) only[MX,HX,Nat.reduceAdd,Nat.reduceEqDiff]
  have nV:V.next=W.next+4:=by rw[hV];rfl
  have g2:V.get (W.next+2)=some (.cells [.af 0,.af 0,.af 0,.slice none 0 0,.af 0,.slice none 0 0,.slice none 0 0]):=by rw[hV];exact(AW.aD _ _ (by simp only[AW.ar];omega)).trans (AW.aH ((W.add (.cells (pI x sv sq qq))).add (.cells (Mj o))) _)
  have g3:V.get (W.next+3)=some (.cells (oH kI)):=by rw[hV];exact AW.aH (((W.add (.cells (pI x sv sq qq))).add (.cells (Mj o))).add (.cells [.af 0,.af 0,.af 0,.slice none 0 0,.af 0,.slice none 0 0,.slice none 0 0])) _
  have l7:∀U,U.get W.next=V.get W.next->fd 7 (bi W.next) U=some (oA x sv sq qq,U):=λU hU=>bV (cs:=pI x sv sq qq) (by unfold aC at c0|-;rw[hU];exact c0) rfl
  have Q4:∀U,U.get (W.next+1)=V.get (W.next+1)->fd 12 (bi (W.next+1)) U=some (Jm o,U):=λU hU=>bV (cs:=Mj o) (by unfold aC at c1|-;rw[hU];exact c1) rfl
  have lk:∀U,U.get (W.next+1)=V.get (W.next+1)->bG (bi (W.next+1)) U=some (.af o.k,U):=λU hU=>aZ (cs:=Mj o) (by unfold aC at c1|-;rw[hU];exact c1) rfl
  have aku:bf (.func (.func 98) #[] #[]) [Jm o] V=some (UZ (DD o.k o.se o.sc o.t1 (Gq o)),V):=F0 _ _ _ _ _ _ _ _ _ _ _ _ (hG.mono aS);have e1:(W.add (.cells (pI x sv sq qq))).next=W.next+1:=rfl;simp only[SX,EA,O7,AW.ar,i9,Nat.reduceAdd];rw[<-hV];clear hV;have same:∀(r:oE) (e:Int),∃V1 V2,gv 7 (bi (W.next+2)) (oA x sv sq qq) V=some (ak,V1)/\gv 9 (bi (W.next+3)) (lC r) V1=some (ak,V2)/\iS Tryz.prog [(bi (W.next+2),some 34),(bi (W.next+3),some 50),(.af e,none)] V2=some (.tuple #[oA x sv sq qq,lC r,.af e],V2)/\Le W V2/\MdR W0 W V2 (oA x sv sq qq) x (oA x sv sq qq) x:=λr e=>by obtain⟨V1,V2,k1,-,-,k2,k3,k4,k5⟩:=D2 (x:=x) Zm air afz g2 rfl g3 (by omega) r (.af e);have nh:Le W V2:=⟨by omega,λb hb=>(k5 b (by omega) (by omega)).trans (aS.get b hb)⟩;exact⟨V1,V2,k1,k2,k3,nh,.inl ⟨rfl,rfl⟩⟩
  simp only[SX,Q4 V rfl,aku];by_cases d1:Gq o=0;case neg=>
   have e3:(DD o.k o.se o.sc o.t1 (Gq o)).2.2=Gq o:=by unfold DD;rw[aq d1]
   have eD:B9 x o=(x,kI,Gq o):=by unfold B9;rw[ap d1]
   rw[eD];obtain⟨V1,V2,k1,k2,k3,k4,k5⟩:=same kI (Gq o);unfold UZ;rw[e3];have d:=bm d1;simp only[SX,d,l7 V rfl,HY,k1,k2,k3,ai];exact⟨_,rfl,k4,k5⟩
  have hk:=S8 d1;rw[acK d1];unfold UZ;have akh:∀W',aR Tryz.prog .len #[31] 3 #[false] [sq] W'=some (.af (x.st.length:Int),W'):=λW'=>nu wu BZ _ _ _
  have abD:∀W',aR Tryz.prog .len #[32] 3 #[false] [qq] W'=some (.af (x.qs.length:Int),W'):=λW'=>(hq.len Fs) W' _ _
  have UK:=NB (W:=V) (sh:=x.v.sh) (dS:=x.v.dS) (g9:=x.v.g9) (now:=x.now) (bF:=cz o) (sec:=sk o) (sv:=sv) (o:=o) akh abD;rw[show wrE x.now (cz o) (sk o) (x.st.length:Int) (x.qs.length:Int) o=UG x o from rfl]at UK;have d0:decide ((0:Int)=0)=true:=rfl;by_cases d2:UG x o=0;case neg=>
   have eD:B9 x o=(x,rK (UG x o),0):=by unfold B9;rw[aq d1,ap d2]
   rw[eD];obtain⟨V1,V2,k1,k2,k3,k4,k5⟩:=same (rK (UG x o)) 0;have d:=bm d2;simp only[SX,l7 V rfl,Q4 V rfl,UK,d,oR,k1,k2,k3,ai];exact⟨_,rfl,k4,k5⟩
  rw[d2]at UK;have akN:x.st≠[]:=λe=>by
   obtain⟨-,-,Z1,-⟩:=df hg.Hh;have h8:=(N4 hg.Hh Z1).2.2.2.2.1;have h9:=(N4 hg.Hh Z1).2.2.2.2.2.2.2;have:=hg.st;rw[e]at this;simp at this;have:(0:Int)<=Ju x.v 0:=by omega
   omega
  have ht:=(df hg.Hh).2.2.2.2.1;have apo:=(df hg.Hh).1.len;obtain⟨V2,sb,qb,bq,c2,Lh⟩:=Q7 (W:=V) (x:=x) (sv:=sv) (wu.keep aS) (hq.mono aS) Zm akN (by have:=hg.st;omega) (by have:=hg.qs;omega) (λl hl=>by obtain⟨k,hk,rfl⟩:=zb hl;have:=(hg.q k hk).1;simp only[js,List.getD,bS hk,nA]at this;omega);have e12:V2.get (W.next+1)=V.get (W.next+1):=Lh.le.get _ (by omega);obtain⟨V3,FK⟩:∃V3,V3=V2.add (.cells (IU x.v sv x.now (uu sb x.st.length) (oh qb x.qs.length) o (cz o))):=⟨_,rfl⟩;have JI:Le V2 V3:=by rw[FK];exact(Le.refl _).add _
  have n3:V3.next=V2.next+1:=by rw[FK];rfl
  have amO:=Lh.lo;have hO:dT V V3 V2.next sb qb bq x sv o (cz o):={
   le:=Lh.le.trans JI
   lo:=⟨Lh.le.next,amO.1,by omega⟩
   hi:=by omega
   ne:=by omega
   nq:=λk=>by have:=Lh.nq k;omega
   sec:=hs.mono aS
   go:=by rw[FK];exact AW.aH _ _
   gs:=(JI.get _ (by omega)).trans Lh.gs
   gq:=by obtain⟨qv,y1,y2,y3,-⟩:=Lh.qx;exact⟨qv,(JI.get _ (by omega)).trans y1,y2,λk hk=>let⟨u,u1,u2⟩:=y3 k hk;⟨u,u1,(u2.mono JI).qa⟩⟩};have hX3:S2 V3 qb bq x.qs:=Lh.qx.mono (by omega) JI;obtain⟨V5,a5,b5⟩:=VK (V3.add (.cells (oH kI)));have le5:Le V3 V5:=((Le.refl V3).add _).trans b5;have g30:V5.get V3.next=some (.cells (oH kI)):=(b5.get _ (by rw[AW.ar];omega)).trans (AW.aH _ _);have n5:V3.next<V5.next:=by have:=b5.next;rw[AW.ar]at this;omega
  have hO5:=hO.mono le5;have hX5:S2 V5 qb bq x.qs:=hX3.mono (by omega) le5;obtain⟨V6,bq6,a6,O6,n6,f6,h6⟩:=ZX hO5 hX5 ⟨by omega,by omega,λk=>(Lh.nq k).2.1⟩ hg hk d2 Jo xx;have g31:V6.get V3.next=some (.cells (oH kI)):=(f6 _ (by omega) n5).trans g30;obtain⟨V7,hV7⟩:∃V7,V7=V6.put V3.next (.cells (oH (cQ x o).2)):=⟨_,rfl⟩;have s30:gv 9 (bi V3.next) (lC (cQ x o).2) V6=some (ak,V7):=by rw[hV7];exact kJ (vs:=(oH (cQ x o).2).toArray) g31 rfl rfl rfl
  have g32:V7.get V3.next=some (.cells (oH (cQ x o).2)):=by rw[hV7];exact AW.aW _ _ _
  have f7:∀b,b≠V3.next->V7.get b=V6.get b:=λb hb=>by rw[hV7];exact AW.ay _ _ (aV hb)
  have n7:V7.next=V6.next:=by rw[hV7];rfl
  have le7:Le V V7:=⟨by have:=O6.le.next;omega,λb hb=>(f7 b (by have:=Lh.le.next;omega)).trans (O6.le.get b hb)⟩;have lV:∀b,b<V.next->V7.get b=V.get b:=λb hb=>le7.get b hb
  have ler:bG (bi V3.next) V7=some (.af (cQ x o).2.er,V7):=aZ (az g32) rfl;have l9:∀U,U.get V3.next=V7.get V3.next->fd 9 (bi V3.next) U=some (lC (cQ x o).2,U):=λU hU=>bV (cs:=oH (cQ x o).2) (az (hU.trans g32)) rfl
  have l93:bG (bi (W.next+1)) V3=some (.af o.k,V3):=lk V3 ((JI.get _ (by have:=Lh.le.next;omega)).trans e12);have lk5:bG (bi (W.next+1)) V5=some (.af o.k,V5):=lk V5 ((le5.get _ (by have:=Lh.le.next;omega)).trans ((JI.get _ (by have:=Lh.le.next;omega)).trans e12));have vk:ff (.af o.k) (.af o.k)=true:=wA _ _;have bx:nG (.agg (IU x.v sv x.now (uu sb x.st.length) (oh qb x.qs.length) o (cz o)).toArray) V2=some (bi V2.next,V3):=by rw[jf,FK]
  by_cases d3:(cQ x o).2.er=0
  ·have eD:B9 x o=((cQ x o).1,(cQ x o).2,0):=by unfold B9;rw[aq d1,aq d2,aq d3]
   rw[eD];have o7:fd 7 (bi V2.next) V7=some (oA (cQ x o).1 sv (uu sb (cQ x o).1.st.length) (oh qb (cQ x o).1.qs.length),V7):=bV (az ((f7 _ (by omega)).trans O6.go)) rfl;obtain⟨V8,V9,k1,k0,k01,k2,k3,k4,k5⟩:=D2 (V:=V7) (b2:=W.next+2) (b3:=W.next+3) (x:=(cQ x o).1) Zm (rfl:Eng.one (uu sb (cQ x o).1.st.length)=true) (rfl:Eng.one (oh qb (cQ x o).1.qs.length)=true) ((lV _ (by omega)).trans g2) rfl ((lV _ (by omega)).trans g3) (by omega) (cQ x o).2 (.af 0);have d:=be d3;simp only[SX,l7 V rfl,Q4 V rfl,UK,c2,Q4 V2 e12,dP,Kc,ki,abc,bx,aN,l93,a5,lk5,vk,abm hk,a6,s30,ler,d,aJ,o7,l9 V7 rfl,k1,l9 V8 (k01 _ (by have:=Lh.le.next;omega)),DW,k2,k3,ai];have JD:Le W V9:=⟨by have:=le7.next;omega,λb hb=>(k5 b (by omega) (by omega)).trans ((lV b (by omega)).trans (aS.get b hb))⟩;refine⟨_,rfl,JD,.inr ?_⟩;have f9:∀b,V.next<=b->b≠V3.next->V9.get b=V6.get b:=λb hb nD=>(k5 b (by omega) (by omega)).trans (f7 b nD)
   have n9:V9.next=V6.next:=by rw[k4,n7]
   have aqR:=O6.hi;intro U hUn hU;have ZF:=Lh.le.next;have fU:∀b,V.next<=b->b≠V3.next->b<V9.next->U.get b=V6.get b:=λb hb nD hb3=>(hU b (.inr (by omega)) hb3).trans (f9 b hb nD)
   have ary:Le W0 U:=⟨by have:=JD.next;omega,λb hb=>(hU b (.inl hb) (by have:=JD.next;omega)).trans ((SB.trans JD).get b hb)⟩;have hsU:iO W0 sv (cQ x o).1.v.aA:=by rw[WR];exact Hc
   refine⟨sv,_,_,rfl,hsU,⟨_,_,rfl,.inr ⟨sb,0,_,rfl,by omega,az ((fU sb (by omega) (by omega) (by omega)).trans O6.gs),?_⟩⟩,?_⟩
   ·rw[jF,<-cD pN (cQ x o).1.st,cY]
   ·obtain⟨qv,q1,q2,q3⟩:=O6.gq;refine⟨_,_,rfl,.inr ⟨qb,0,qv,rfl,by omega,az ((fU qb (by omega) (by omega) (by omega)).trans q1),λi hi=>?_⟩⟩;obtain⟨u,u1,u2⟩:=q3 i hi;have hq6:=O6.nq i;have ee:bq6 i≠V3.next:=by
     rcases h6 i with e|e
     ·have:=(Lh.nq i).2.1;omega
     ·omega
    exact⟨u,by rw[aN,jE];exact u1,(u2.keep (fU _ hq6.1 ee (by omega))).rd (by omega)⟩
  ·have eD:B9 x o=(x,(cQ x o).2,0):=by unfold B9;rw[aq d1,aq d2,ap d3]
   rw[eD];obtain⟨V8,V9,k1,k0,k01,k2,k3,k4,k5⟩:=D2 (V:=V7) (b2:=W.next+2) (b3:=W.next+3) (x:=x) Zm air afz ((lV _ (by omega)).trans g2) rfl ((lV _ (by omega)).trans g3) (by omega) (cQ x o).2 (.af 0);have d:=bm d3;simp only[SX,l7 V rfl,Q4 V rfl,UK,c2,Q4 V2 e12,dP,Kc,ki,abc,bx,l93,a5,lk5,vk,abm hk,a6,s30,ler,d,l7 V7 (lV _ (by omega)),l9 V7 rfl,k1,l9 V8 (k01 _ (by have:=Lh.le.next;omega)),DW,k2,k3,ai];have JD:Le W V9:=⟨by have:=le7.next;omega,λb hb=>(k5 b (by omega) (by omega)).trans ((lV b (by omega)).trans (aS.get b hb))⟩;exact⟨_,rfl,JD,.inl ⟨rfl,rfl⟩⟩
 obtain⟨⟨v,V⟩,h1,iU,rfl,h2,h3⟩:=sX;have tL:=JO h1;unfold OG at tL;by_cases hp:(bC (.tuple #[iU,lC (B9 x o).2.1,.af (B9 x o).2.2])&& !XE (.tuple #[iU,lC (B9 x o).2.1,.af (B9 x o).2.2]))=true
 ·obtain⟨sv',sq',qq',rfl,m1,m2,m3⟩:=h3.at (Ye.mono h2);exfalso;have hv:(B9 x o).1.v=x.v:=by
   unfold B9;split
   ·split
    ·split
     ·exact WR x o
     ·rfl
    ·rfl
   ·rfl
  rw[hv]at m1;obtain⟨-,a,c,rfl,-,h4⟩:=m1;obtain⟨b,o',rfl⟩:=h4 (λe=>by have:=(df hg.Hh).2.2.1;rw[e]at this;exact absurd this (by simp));simp[bC,eQ,bZ]at hp
 ·rw[pC (zn.2 hp)]at tL;exact⟨_,V,tL,h2,h3⟩
structure Bnd (x:cK):Prop where
 v:x.v.aA.length<1000
 st:x.st.length<=10000
 qs:x.qs.length<=10000
 q:∀l∈x.qs,l.length<=10000
 now:x.now<9223372036854775808
def CE.flat{Z Z' W U:AW}{x:cK}{sv sq qq e:ad}{r:oE}(h:(bC (.tuple #[oA x sv sq qq,lC r,e])&& !XE (.tuple #[oA x sv sq qq,lC r,e]))=true)(m1:iO Z sv x.v.aA)(m2:Qm W sq x.st)(m3:Rc W qq x.qs):CE Z' U (oA x sv sq qq) x:=by
 obtain⟨⟨a,c,rfl,k1⟩,k2⟩:=m1;obtain⟨a2,c2,rfl,k3⟩:=m2;obtain⟨a3,c3,rfl,k4⟩:=m3;cases a with
 |some a=>simp[bC,eQ,bZ]at h
 |none=>
 cases a2 with
 |some a=>simp[bC,eQ,bZ]at h
 |none=>
 cases a3 with
 |some a=>simp[bC,eQ,bZ]at h
 |none=>
 refine⟨_,_,_,rfl,⟨⟨none,c,rfl,k1.imp id λ⟨b,o,cs,e,_⟩=>by cases e⟩,k2⟩,⟨none,c2,rfl,k3.imp id λ⟨b,o,cs,e,_⟩=>by cases e⟩,⟨none,c3,rfl,k4.imp id λ⟨b,o,cs,e,_⟩=>by cases e⟩⟩
def agJ{W0 W:AW}{x:cK}{o:jS}{val:ad}(hG:GW W)(hm:CE W0 W val x)(SB:Le W0 W)(hb:Bnd x)(xx:o.nw<9223372036854775808):
 ∃iU W',bf (.func (.func 25) #[] #[]) [val,Jm o] W=some (.tuple #[iU,lC (Cg x o).2.1,.af (Cg x o).2.2],W')/\Le W W'/\MdR W0 W W' val x iU (Cg x o).1:=by
 obtain⟨sv,sq,qq,rfl,Hc,wu,hq⟩:=id hm;have hs:=Hc.mono SB;have akA:=SB.next;have sX:Ok (DU bf (oA x sv sq qq) (Jm o) W) λr=>∃iU,r.1=.tuple #[iU,lC (Cg x o).2.1,.af (Cg x o).2.2]/\Le W r.2/\MdR W0 W r.2 (oA x sv sq qq) x iU (Cg x o).1:=by
  unfold DU;obtain⟨V,hV⟩:∃V,V=(((W.add (.cells (pI x sv sq qq))).add (.cells (Mj o))).add (.cells [.af 0,.af 0,.af 0,.slice none 0 0,.af 0,.slice none 0 0,.slice none 0 0])).add (.cells (oH kI)):=⟨_,rfl⟩;have aS:Le W V:=by rw[hV];exact((((Le.refl W).add _).add _).add _).add _
  have c0:aC V W.next=some (pI x sv sq qq):=by rw[hV];simp(maxDischargeDepth:=9) only[MX,HX,Nat.reduceAdd,Nat.reduceEqDiff]
  have c1:aC V (W.next+1)=some (Mj o):=by rw[hV];simp(maxDischargeDepth:=9) only[MX,HX,Nat.reduceAdd,Nat.reduceEqDiff]
  have nV:V.next=W.next+4:=by rw[hV];rfl
  have g2:V.get (W.next+2)=some (.cells [.af 0,.af 0,.af 0,.slice none 0 0,.af 0,.slice none 0 0,.slice none 0 0]):=by rw[hV];exact(AW.aD _ _ (by simp only[AW.ar];omega)).trans (AW.aH ((W.add (.cells (pI x sv sq qq))).add (.cells (Mj o))) _)
  have g3:V.get (W.next+3)=some (.cells (oH kI)):=by rw[hV];exact AW.aH (((W.add (.cells (pI x sv sq qq))).add (.cells (Mj o))).add (.cells [.af 0,.af 0,.af 0,.slice none 0 0,.af 0,.slice none 0 0,.slice none 0 0])) _
  have l7:fd 7 (bi W.next) V=some (oA x sv sq qq,V):=bV c0 rfl;have Q4:fd 12 (bi (W.next+1)) V=some (Jm o,V):=bV c1 rfl;simp only[SX,EA,O7,AW.ar,i9,Nat.reduceAdd];rw[<-hV];clear hV;have hck:=Of (W:=V) (x:=x) (sv:=sv) (hs.mono aS) hb.v (wu.keep aS) (hq.mono aS) hb.st hb.qs hb.q;by_cases d1:UU x=0
  ·have eM:Cg x o=B9 x o:=aq d1;rw[eM];have d:=be d1;obtain⟨iU,V2,k1,k2,hK⟩:=ail (hG.mono aS) (hm.mono aS) (SB.trans aS) d1 hb.now xx (o:=o);obtain⟨sv',sq',qq',rfl,m1,m2,m3⟩:=hK.at (hm.mono (aS.trans k2));obtain⟨V8,V9,p1,p0,p01,p2,p3,p4,p5⟩:=D2 (V:=V2) (b2:=W.next+2) (b3:=W.next+3) (x:=(B9 x o).1) (row_one m1.1) (Ee m2) (row_one m3) ((k2.get _ (by omega)).trans g2) rfl ((k2.get _ (by omega)).trans g3) (by omega) (B9 x o).2.1 (.af (B9 x o).2.2);simp only[SX,l7,Q4,hck,d,k1,p1,p2,p3,ai];have k2n:=k2.next;refine⟨_,rfl,⟨by omega,λb hb=>(p5 b (by omega) (by omega)).trans ((k2.get _ (by omega)).trans (aS.get b hb))⟩,?_⟩;rcases hK with hK|hK
   ·exact .inl hK
   refine .inr λU hUn hU=>?_
   exact hK U (by omega) λb hb nD=>(hU b (by omega) (by omega)).trans (p5 b (by omega) (by omega))
  ·have eM:Cg x o=(x,kI,UU x):=ap d1;rw[eM];have d:=bm d1;obtain⟨V8,V9,p1,p0,p01,p2,p3,p4,p5⟩:=D2 (V:=V) (b2:=W.next+2) (b3:=W.next+3) (x:=x) (row_one hs.1) (Ee wu) (row_one hq) g2 rfl g3 (by omega) kI (.af (UU x));simp only[SX,l7,Q4,hck,d,HY,p1,p2,p3,ai];have JD:Le W V9:=⟨by omega,λb hb=>(p5 b (by omega) (by omega)).trans (aS.get b hb)⟩;exact⟨_,rfl,JD,.inl ⟨rfl,rfl⟩⟩
 obtain⟨⟨v,V⟩,h1,iU,rfl,h2,h3⟩:=sX;have tL:=LH h1;unfold OG at tL;unfold gc at tL;by_cases hp:(bC (.tuple #[iU,lC (Cg x o).2.1,.af (Cg x o).2.2])&& !XE (.tuple #[iU,lC (Cg x o).2.1,.af (Cg x o).2.2]))=true/\Le W V
 ·rw[aq hp]at tL;refine⟨_,W,tL,.refl _,?_⟩;obtain⟨sv',sq',qq',rfl,m1,m2,m3⟩:=h3.at (hm.mono h2);exact .inr λU hUn hU=>CE.flat hp.1 m1 m2 m3
 ·rw[ap hp]at tL;exact⟨_,V,tL,h2,h3⟩
section
variable {Z W V V':AW} {lo sb qb:Nat} {u:ad} {l:List Int}
variable {x x':cK} {sv:ad}
end
section
variable {Z W V V':AW} {lo sb qb:Nat} {x x':cK} {sv:ad}
end
section
variable {W:AW} {b ob:Nat} {sh dS g9 now bF sec ns nq:Int} {sv sq qq:ad} {o:jS}
end
section
variable {Z W V V':AW} {lo sb qb k:Nat} {x x':cK} {sv:ad} {o:jS}
end
section
variable {Z W V U U':AW} {lo sb qb k:Nat} {x x' X:cK} {sv:ad} {o:jS} {y:fA} {R0:oE}
structure Sm (x X:cK):Prop where
 v:X.v=x.v
 now:X.now=x.now
 st:X.st.length=x.st.length
 qs:X.qs.length=x.qs.length
end
section
variable {Z W V U U':AW} {lo sb qb k:Nat} {x x' X:cK} {sv:ad} {o:jS} {y:fA} {R0:oE}
end
section
variable {Z W V U U':AW} {lo sb qb k:Nat} {x x' X:cK} {sv:ad} {o:jS} {y:fA} {R0:oE}
end
section
variable {Z W V U U':AW} {lo sb qb k:Nat} {x x' X:cK} {sv:ad} {o:jS} {y:fA} {R0:oE}
end
section
variable {Z W V U U':AW} {lo sb qb k:Nat} {x x' X:cK} {sv:ad} {o:jS} {y:fA} {R0:oE}
end
def PB{x:cK}{i N:Nat}(h:∀l∈x.qs,l.length<=N):∀l∈(sf x i).qs,l.length<=N:=by
 unfold sf;split
 ·rename_i a t e;intro l hl;rcases List.mem_or_eq_of_mem_set hl with h1|rfl
  ·exact h _ h1
  ·have:=h _ (qt e);rw[cG]at this;omega
 ·exact h
def PG{N:Nat}(nw:Int):∀(L:List Nat) (x:cK),(∀l∈x.qs,l.length<=N)->∀l∈(L.foldl (Bg nw) x).qs,l.length<=N
 |[],_,h=>h
 |i::L,x,h=>PG nw L _ (PB (x:={x with st:=x.st.set i (vL (dO x i) nw)}) h)
section
variable {Z W V U U':AW} {lo sb qb:Nat} {x x' X:cK} {sv sq qq:ad}
end
section
variable {Z W V U U':AW} {lo sb qb:Nat} {x x' X:cK} {sv sq qq:ad}
end
section
variable {Z W V U U':AW} {lo sb qb:Nat} {x x' X:cK} {sv sq qq:ad}
def RS(x:cK)(nw:Int)(L:List Nat):Sm {x with now:=nw} (K9 x nw L):=by obtain⟨a,b,c,d⟩:=Br nw {x with now:=nw} L;exact⟨a,b,c,d⟩
end
section
variable {Z W V U U':AW} {lo sb qb:Nat} {x x' X:cK} {sv sq qq:ad} {o:jS}
end
section
variable {Z W V V1 U U':AW} {lo sb qb b4 b5:Nat} {x x' X X' Y:cK} {sv sq qq:ad} {o:jS} {R R':oE}
end
section
variable {Z W V V1 U U':AW} {lo sb qb b4 b5:Nat} {x x' X X' Y:cK} {sv sq qq:ad} {o:jS} {R R':oE}
end
section
variable {Z W V V1 U U':AW} {lo sb qb b4 b5:Nat} {x x' X X' Y:cK} {sv sq qq:ad} {o:jS} {R R':oE}
end
def XQ(s:ByteArray)(W:AW):∃n:Int,aR Tryz.prog .len #[9] 3 #[false] [.string s] W=some (.af n,W):=⟨_,rfl⟩
end Go.Proofs.YtmaoneengdafhaaGreatDoor
namespace Go.Proofs.YtmaoneengdafhaaGreatDoor
open Go Go.Eng Go.RowKit
structure HiR (W:AW) (v:fc) (sv ev:ad) (l:List fF):Prop where
 aA:iO W sv v.aA
 RA:RV W ev l
 nw:∀e∈l,e.op.nw<9223372036854775808
def HiR.mono{W W':AW}{v:fc}{sv ev:ad}{l:List fF}(h:HiR W v sv ev l)(aS:Le W W'):HiR W' v sv ev l:=⟨h.aA.mono aS,h.RA.mono aS,h.nw⟩
def Zu{W:AW}{v:fc}{sv ev:ad}{l:List fF}(h:HiR W v sv ev l)(n:Int):∃c:Bool,bf (.func (.func 6) #[] #[]) [CG v sv ev,.af n] W=some (.bool c,W)/\(c=false->HiA W v sv ev l/\l.length<=410/\((l.length:Int)<=n\/400<l.length)):=by
 have sX:Ok (A4 bf (CG v sv ev) (.af n) W) λr=>∃c:Bool,r.1=.bool c/\Le W r.2/\(c=false->v.aA.length<=10/\(∀s∈v.aA,s.rows.length<=20)/\l.length<=410/\((l.length:Int)<=n\/400<l.length)):=by
  unfold A4;have aS:Le W (W.add (.cells [.af v.sh,.af v.dS,.af v.g9,sv,ev])):=(Le.refl W).add _;have hg:(W.add (.cells [.af v.sh,.af v.dS,.af v.g9,sv,ev])).get W.next=some (.cells [.af v.sh,.af v.dS,.af v.g9,sv,ev]):=AW.aH _ _;simp only[SX];generalize W.add (.cells [.af v.sh,.af v.dS,.af v.g9,sv,ev])=W1 at *;have h1:=h.mono aS;have c3:bG (.pointer (some ⟨W.next,3,none⟩)) W1=some (sv,W1):=xi hg rfl;have c4:bG (.pointer (some ⟨W.next,4,none⟩)) W1=some (ev,W1):=xi hg rfl;refine bz (min v.aA.length 20) (by omega) (λi R V=>V=W1/\R 1=.af n/\R 2=.pointer (some ⟨W.next,0,none⟩)/\R 5=.af (i:Int)/\∀j (hj:j<v.aA.length),j<i->v.aA[j].rows.length<=20)
   (λr=>r.2.2=W1/\((r.1=.exit 0/\r.2.1 1=.af n/\r.2.1 2=.pointer (some ⟨W.next,0,none⟩)/\∀j (hj:j<v.aA.length),j<20->v.aA[j].rows.length<=20)\/(r.1=.ret/\r.2.1 4=.bool true))) ⟨rfl,rfl,rfl,rfl,λj hj h=>by omega⟩ ?_ ?_ ?_
  ·rintro i R V hi ⟨rfl,r1,r2,r5,hj⟩;unfold sY;have pb:i<v.aA.length:=by omega
   have t1:((i:Int)<(v.aA.length:Int)):=by omega
   have t0:((i:Int)<20):=by omega
   have t2:=λW'=>bJ W' i 1
   have e3:((i+1:Nat):Int)=(i:Int)+1:=by omega
   obtain⟨b,o,rv,i1,i2,-,i4,i5,-⟩:=jD.get h1.aA.1 pb;obtain⟨m,hm⟩:=XQ (aQ v.aA[i].name) V;cases d2:decide (100<m)
   ·by_cases c3':v.aA[i].rows.length<=20
    ·have d3:decide ((20:Int)<(v.aA[i].rows.length:Int))=false:=cN;simp only[SX,r2,r5,aN,fY,c3,h1.aA.1.len vA,t1,t0,i1,i4 _ (Le.refl _),hm,d2,i5 _ (Le.refl _),i2.len OX,d3,t2,ai];exact .inl ⟨ao,ao,r1,r2,by rw[e3];rfl,λj hj' kW=>by
      by_cases e:j=i
      ·subst e;exact c3'
      ·exact hj j hj' (by omega)⟩
    ·have d3:decide ((20:Int)<(v.aA[i].rows.length:Int))=true:=dj;simp only[SX,r2,r5,aN,fY,c3,h1.aA.1.len vA,t1,t0,i1,i4 _ (Le.refl _),hm,d2,i5 _ (Le.refl _),i2.len OX,d3,t2,ai];exact .inr ⟨by simp,ao,.inr ⟨ao,rfl⟩⟩
   ·simp only[SX,r2,r5,aN,fY,c3,h1.aA.1.len vA,t1,t0,i1,i4 _ (Le.refl _),hm,d2,t2,ai];exact .inr ⟨by simp,ao,.inr ⟨ao,rfl⟩⟩
  ·rintro R V ⟨rfl,r1,r2,r5,hj⟩;unfold sY;by_cases c:v.aA.length<=20
   ·have t1:¬(((min v.aA.length 20:Nat):Int)<(v.aA.length:Int)):=by omega
    simp only[SX,r2,r5,aN,c3,h1.aA.1.len vA,t1,ai];exact⟨by simp,ao,.inl ⟨ao,r1,r2,λj h1 h2=>hj j h1 (by omega)⟩⟩
   ·have t1:(((min v.aA.length 20:Nat):Int)<(v.aA.length:Int)):=by omega
    have t0:¬(((min v.aA.length 20:Nat):Int)<20):=by omega
    simp only[SX,r2,r5,aN,c3,h1.aA.1.len vA,t1,t0,ai];exact⟨by simp,ao,.inl ⟨ao,r1,r2,λj h1 h2=>hj j h1 (by omega)⟩⟩
  ·rintro⟨q,R,V⟩ ⟨rfl,hq⟩;simp only at hq;rcases hq with⟨rfl,r1,r2,hj⟩|⟨rfl,r4⟩
   ·have hsm:v.aA.length<=10->∀s∈v.aA,s.rows.length<=20:=λhl s hs=>by obtain⟨j,hj',rfl⟩:=List.mem_iff_getElem.1 hs;exact hj j hj' (by omega)
    by_cases k1:v.aA.length<=10
    ·have d1:decide ((10:Int)<(v.aA.length:Int))=false:=cN;by_cases k4:l.length<=410
     ·have d4:decide ((410:Int)<(l.length:Int))=false:=cN;by_cases k2:n<(l.length:Int)
      ·have d2:decide (n<(l.length:Int))=true:=be k2;by_cases k3:(l.length:Int)<=400
       ·have d3:decide ((l.length:Int)<=400)=true:=be k3;simp only[SX,r1,r2,aN,c3,c4,h1.aA.1.len vA,h1.RA.len BQ,d1,d2,d3,ai];exact⟨true,rfl,aS,λh=>by cases h⟩
       ·have d3:decide ((l.length:Int)<=400)=false:=bm k3;simp only[SX,r1,r2,aN,c3,c4,h1.aA.1.len vA,h1.RA.len BQ,d1,d2,d3,d4,ai];exact⟨false,rfl,aS,λ_=>⟨k1,hsm k1,k4,.inr (by omega)⟩⟩
      ·have d2:decide (n<(l.length:Int))=false:=bm k2;simp only[SX,r1,r2,aN,c3,c4,h1.aA.1.len vA,h1.RA.len BQ,d1,d2,d4,ai];exact⟨false,rfl,aS,λ_=>⟨k1,hsm k1,k4,.inl (by omega)⟩⟩
     ·have d4:decide ((410:Int)<(l.length:Int))=true:=dj;cases d2:decide (n<(l.length:Int))<;>cases d3:decide ((l.length:Int)<=400)<;>
       (simp only[SX,r1,r2,aN,c3,c4,h1.aA.1.len vA,h1.RA.len BQ,d1,d2,d3,d4,ai];exact⟨true,rfl,aS,λh=>by cases h⟩)
    ·have d1:decide ((10:Int)<(v.aA.length:Int))=true:=dj;simp only[SX,wu2,r2,aN,c3,h1.aA.1.len vA,d1,ai];exact⟨true,rfl,aS,λh=>by cases h⟩
   ·simp only[SX,r4,ai];exact⟨true,rfl,aS,λh=>by cases h⟩
 obtain⟨⟨q,W'⟩,h1,c,h2,h3,h4⟩:=sX;simp only at h2;subst h2;refine⟨c,aX rfl ⟨_,h1,rfl,h3⟩ HF,λhc=>?_⟩;obtain⟨k1,k2,k3⟩:=h4 hc;exact⟨⟨h.aA,by omega,λs hs=>by have:=k2 s hs;omega,h.RA⟩,k3⟩
end Go.Proofs.YtmaoneengdafhaaGreatDoor
namespace Go.Proofs.YtmaoneengdafhaaGreatDoor
open Go Go.Eng
def jD.ah7{W:AW}{v:ad}{l:List kh}(h:jD W v l){i:Nat}(hi:i<l.length):∃b o rv,(∀W' k,nR 3 v (.int k (i:Int)) W'=some (.pointer (some ⟨b,o,none⟩),W'))/\gg W rv l[i].rows/\
 (∀W',Le W W'->fd 3 (.pointer (some ⟨b,o,none⟩)) W'=some (Ei l[i] rv,W'))/\tT rv rv=true/\Eng.one rv=true:=by
 obtain⟨b,o,cs,h1,h2,h3,h4,h5,rv,h6,h7,h8⟩:=h.elem hi;refine⟨b,o,rv,h1,h7,λW' aS=>?_,h8⟩;rw[In,aS.aC h2,h3];simp only[bL,aap h4 h6 h5,cG,wC,ba]
def jD.vs{W:AW}{v:ad}{l:List kh}(h:jD W v l){i:Nat}(hi:i<l.length):ff v v=true:=by
 obtain⟨a,c,rfl,h⟩:=h;rcases h with h|⟨b,o,cs,rfl,-⟩
 ·rw[h]at hi;simp at hi
 ·exact kB _ _ _ _
def agv(W:AW):cl Tryz.prog 63 W=some (.pointer (some ⟨W.next,0,none⟩),W.add (.cells [.string ⟨#[]⟩,.slice none 0 0,.af 0])):=aL (by kernel_rfl) rfl
def ajM(v:fc)(sv:ad)(W:AW):nG (kP v sv) W=some (.pointer (some ⟨W.next,0,none⟩),W.add (.cells [.af v.sh,.af v.dS,.af v.g9,sv])):=jf _
def Nu{W:AW}{v:fc}{sv su:ad}(h:jD W sv v.aA)(k:jD W su v.aA)(hl:v.aA.length<1000)(hr:∀s∈v.aA,s.rows.length<1000):bf (.func (.func 29) #[] #[]) [kP v sv,kP v su] W=some (.bool true,W):=by
 refine aX rfl ?_ FH;unfold Ef;obtain⟨W2,ZF⟩:∃W2,W2=(W.add (.cells [.af v.sh,.af v.dS,.af v.g9,sv])).add (.cells [.af v.sh,.af v.dS,.af v.g9,su]):=⟨_,rfl⟩;have aS:Le W W2:=by rw[ZF];exact((Le.refl _).add _).add _
 have g1:W2.get W.next=some (.cells [.af v.sh,.af v.dS,.af v.g9,sv]):=by rw[ZF,AW.aD _ _ (by rw[AW.ar];omega),AW.aH]
 have g2:W2.get (W.next+1)=some (.cells [.af v.sh,.af v.dS,.af v.g9,su]):=by rw[ZF,<-AW.ar W (.cells [.af v.sh,.af v.dS,.af v.g9,sv]),AW.aH]
 have n2:W2.next=W.next+2:=by rw[ZF,AW.ar,AW.ar]
 simp only[SX,AW.ar,aN];rw[<-ZF];clear ZF;have a0:bG (.pointer (some ⟨W.next,0,none⟩)) W2=some (.af v.sh,W2):=xi g1 rfl;have a1:bG (.pointer (some ⟨W.next,1,none⟩)) W2=some (.af v.dS,W2):=xi g1 rfl;have a2:bG (.pointer (some ⟨W.next,2,none⟩)) W2=some (.af v.g9,W2):=xi g1 rfl;have a3:∀{V:AW},Le W2 V->bG (.pointer (some ⟨W.next,3,none⟩)) V=some (sv,V):=λ{V} hv=>xi ((hv.get _ (by omega)).trans g1) rfl
 have b0:bG (.pointer (some ⟨W.next+1,0,none⟩)) W2=some (.af v.sh,W2):=xi g2 rfl;have b1:bG (.pointer (some ⟨W.next+1,1,none⟩)) W2=some (.af v.dS,W2):=xi g2 rfl;have b2:bG (.pointer (some ⟨W.next+1,2,none⟩)) W2=some (.af v.g9,W2):=xi g2 rfl;have b3:∀{V:AW},Le W2 V->bG (.pointer (some ⟨W.next+1,3,none⟩)) V=some (su,V):=λ{V} hv=>xi ((hv.get _ (by omega)).trans g2) rfl
 have q0:decide (v.sh=v.sh)=true:=be rfl;have q1:decide (v.dS=v.dS)=true:=be rfl;have q2:decide (v.g9=v.g9)=true:=be rfl;have q3:decide ((v.aA.length:Int)=(v.aA.length:Int))=true:=be rfl;have h2:=jD.mono h aS;have k2:=jD.mono k aS;simp only[SX,a0,a1,a2,a3 (Le.refl _),b0,b1,b2,b3 (Le.refl _),Row.len h2 vA,Row.len k2 vA];refine bz v.aA.length (by omega) (λi R V=>Le W2 V/\R 2=.pointer (some ⟨W.next,0,none⟩)/\R 3=.pointer (some ⟨W.next+1,0,none⟩)/\R 5=.af (i:Int)) (λr=>r.1=.exit 0/\Le W2 r.2.2) ⟨Le.refl _,rfl,rfl,rfl⟩ ?_ ?_ ?_
 ·rintro i R V hi ⟨g,r2,r3,r5⟩;unfold qO;have t1:((i:Int)<(v.aA.length:Int)):=by omega
  have t2:=λW'=>bJ W' i 1
  have e3:((i+1:Nat):Int)=(i:Int)+1:=by omega
  have hV:=jD.mono h2 g;have kV:=jD.mono k2 g;have hvs:=jD.vs kV hi;obtain⟨b,o,rv,i1,i2,i3,Sd,CA⟩:=jD.ah7 hV hi;obtain⟨d,p,ru,j1,j2,j3,kvr,akg⟩:=jD.ah7 kV hi;have hrl:=hr _ (ez hi);generalize v.aA[i]=s at i2 i3 j2 j3 hrl;have yv:ff (Ei s ru) (Ei s ru)=true:=ky (by simp[OV,kvr,E1,II]);have sa1:gv 3 (.pointer (some ⟨V.next,0,none⟩)) (Ei s rv) ((V.add (.cells [.string ⟨#[]⟩,.slice none 0 0,.af 0])).add (.cells [.string ⟨#[]⟩,.slice none 0 0,.af 0]))=some (ak,((V.add (.cells [.string ⟨#[]⟩,.slice none 0 0,.af 0])).add (.cells [.string ⟨#[]⟩,.slice none 0 0,.af 0])).put V.next (.cells [.string (aQ s.name),rv,.af s.q])):=
   kJ (by rw[AW.aD _ _ (by rw[AW.ar];omega),AW.aH]) rfl rfl (by simp[CA,pr,gH])
  obtain⟨V1,yj⟩:∃V1,V1=((V.add (.cells [.string ⟨#[]⟩,.slice none 0 0,.af 0])).add (.cells [.string ⟨#[]⟩,.slice none 0 0,.af 0])).put V.next (.cells [.string (aQ s.name),rv,.af s.q]):=⟨_,rfl⟩;rw[<-yj]at sa1;have l1:Le V V1:=by rw[yj];exact(((Le.refl _).add _).add _).put (aM _) _
  have n1:V1.next=V.next+2:=by rw[yj,AW.bh,AW.ar,AW.ar]
  have x1:V1.get V.next=some (.cells [.string (aQ s.name),rv,.af s.q]):=by rw[yj,AW.aW]
  have x2:V1.get (V.next+1)=some (.cells [.string ⟨#[]⟩,.slice none 0 0,.af 0]):=by rw[yj,AW.ay _ _ (by omega),<-AW.ar V (.cells [.string ⟨#[]⟩,.slice none 0 0,.af 0]),AW.aH]
  have sa2:gv 3 (.pointer (some ⟨V.next+1,0,none⟩)) (Ei s ru) V1=some (ak,V1.put (V.next+1) (.cells [.string (aQ s.name),ru,.af s.q])):=kJ x2 rfl rfl (by simp[akg,pr,gH]);obtain⟨V2,Mh⟩:∃V2,V2=V1.put (V.next+1) (.cells [.string (aQ s.name),ru,.af s.q]):=⟨_,rfl⟩;rw[<-Mh]at sa2;have l2:Le V V2:=by rw[Mh];exact l1.put (by omega) _
  have z1:V2.get V.next=some (.cells [.string (aQ s.name),rv,.af s.q]):=by rw[Mh,AW.ay _ _ (by omega)];exact x1
  have z2:V2.get (V.next+1)=some (.cells [.string (aQ s.name),ru,.af s.q]):=by rw[Mh,AW.aW]
  clear yj Mh;have w0:bG (.pointer (some ⟨V.next,0,none⟩)) V2=some (.string (aQ s.name),V2):=xi z1 rfl;have w1:bG (.pointer (some ⟨V.next,1,none⟩)) V2=some (rv,V2):=xi z1 rfl;have w2:bG (.pointer (some ⟨V.next,2,none⟩)) V2=some (.af s.q,V2):=xi z1 rfl;have y0:bG (.pointer (some ⟨V.next+1,0,none⟩)) V2=some (.string (aQ s.name),V2):=xi z2 rfl;have y1:bG (.pointer (some ⟨V.next+1,1,none⟩)) V2=some (ru,V2):=xi z2 rfl;have y2:bG (.pointer (some ⟨V.next+1,2,none⟩)) V2=some (.af s.q,V2):=xi z2 rfl;have ZP:=Yb (i2.mono l2) (j2.mono l2) (by omega);rw[be rfl]at ZP;have p0:decide (s.q=s.q)=true:=be rfl;have alr:∀(n:ByteArray) (c d:Bool) (W:AW),bs Tryz.prog .neq 9 c d (.string n) (.string n) W=some (.bool false,W):=λn c d W=>by rw[A0,beq_self_eq_true];rfl
  simp only[SX,r2,r3,r5,aN,a3 g,b3 g,Row.len hV vA,t1,i1,i3 _ (Le.refl _),j1,j3 _ (Le.refl _),agv,AW.ar,sa1,j3 _ l1,dP,yv,b3 (g.trans l1),hvs,lX,sa2,w0,y0,alr,w2,y2,w1,y1,ZP,t2,ai];exact .inl ⟨ao,g.trans l2,r2,r3,by rw[e3];rfl⟩
 ·rintro R V ⟨g,r2,r3,r5⟩;unfold qO;have t1:¬((v.aA.length:Int)<(v.aA.length:Int)):=by omega
  simp only[SX,r2,r5,aN,a3 g,Row.len (jD.mono h2 g) vA,t1,ai];exact⟨by simp,ao,g⟩
 ·rintro⟨q,R,V⟩ ⟨rfl,g⟩;simp only[SX,ai];exact⟨ao,aS.trans g⟩
structure Xt (x X:cK) (o:jS):Prop where
 v:X.v=x.v
 st:X.st.length=x.st.length
 qs:X.qs.length=x.qs.length
 q:(∀l∈x.qs,l.length<=64)->∀l∈X.qs,l.length<=65
 now:X.now=x.now\/X.now=o.nw
def Xt.refl(x:cK)(o:jS):Xt x x o:=⟨rfl,rfl,rfl,λh l hl=>by have:=h l hl;omega,.inl rfl⟩
def Xt.off(x y:cK)(o:jS)(i:Nat)(h1:y.v=x.v)(h2:y.st.length=x.st.length)(h3:y.qs=x.qs)(h4:y.now=x.now\/y.now=o.nw):Xt x (sf y i) o:=by obtain⟨a,b,c,d⟩:=AP y i;refine⟨a.trans h1,c.trans h2,d.trans (by rw[h3]),λh=>?_,by rw[b];exact h4⟩;have:=PB (x:=y) (i:=i) (N:=65) (λl hl=>by rw[h3]at hl;have:=h l hl;omega);exact this
def Mx(x:cK)(o:jS)(s:Nat)(y:fA)(e:Int):Xt x (HB x s y e) o:=by
 unfold HB;split
 ·exact⟨rfl,by simp,rfl,λh l hl=>by have:=h l hl;omega,.inl rfl⟩
 ·exact .refl _ _
def MM(x:cK)(o:jS)(s:Nat)(y:fA)(e:Int):Xt x (Og x s y e) o:=by
 unfold Og;split
 ·exact .off _ _ _ _ rfl (by simp) rfl (.inl rfl)
 ·exact .refl _ _
def GQ{qs:List (List Int)}{k:Nat}{l:List Int}(h:∀l∈qs,l.length<=64)(hl:l.length<=65):∀a∈qs.set k l,a.length<=65:=λa ha=>by
 rcases List.mem_or_eq_of_mem_set ha with h1|rfl
 ·have:=h a h1;omega
 ·exact hl
def Pv{x:cK}{k:Nat}(h:∀l∈x.qs,l.length<=64):(js x k).length<=64:=by
 unfold js;by_cases hk:k<x.qs.length
 ·simp only[List.getD,bS hk,nA];exact h _ (ez hk)
 ·simp[List.getD,iE (by omega:x.qs.length<=k)]
def XL(x:cK)(o:jS):Xt x (cQ x o).1 o:=by
 have e:=cQ.eq_1 x o;by_cases k1:o.k=1
 ·rw[aq k1]at e;rw[e];exact .refl _ _
 rw[ap k1]at e;by_cases k2:o.k=2
 ·rw[aq k2]at e;rw[e];exact Mx _ _ _ _ _
 rw[ap k2]at e;by_cases k3:o.k=3
 ·rw[aq k3]at e;rw[e];show Xt x (vU x _ _ _) o;unfold vU;split
  ·obtain⟨a,b,c,d⟩:=D5 o.ow (iV x.now x.v.dS) (ui x (sk o).toNat o.n).1.toNat x (List.range o.n.toNat);exact⟨a,c,iH List.length d,λh l hl=>by have B6:l∈((List.range o.n.toNat).foldl (tN o.ow (iV x.now x.v.dS) (ui x (sk o).toNat o.n).1.toNat) x).qs:=hl;rw[d]at B6;have:=h l B6;omega,.inl b⟩
  ·exact .refl _ _
 rw[ap k3]at e;by_cases k4:o.k=4
 ·rw[aq k4]at e;rw[e];exact MM _ _ _ _ _
 rw[ap k4]at e;by_cases k5:o.k=5
 ·rw[aq k5]at e;rw[e];exact Mx _ _ _ _ _
 rw[ap k5]at e;by_cases k6:o.k=6
 ·rw[aq k6]at e;rw[e];exact Mx _ _ _ _ _
 rw[ap k6]at e;by_cases k7:o.k=7
 ·rw[aq k7]at e;rw[e];exact MM _ _ _ _ _
 rw[ap k7]at e;by_cases k8:o.k=8
 ·rw[aq k8]at e;rw[e];exact MM _ _ _ _ _
 rw[ap k8]at e;by_cases k9:o.k=9
 ·rw[aq k9]at e;rw[e];exact .refl _ _
 rw[ap k9]at e;by_cases Ss:o.k=10
 ·rw[aq Ss]at e;rw[e];show Xt x (zM x _ _) o;unfold zM;split
  ·exact⟨rfl,rfl,by simp,λh=>GQ h (by have:=Pv (k:=(sk o).toNat) h;rw[cT,List.length_singleton];omega),.inl rfl⟩
  ·exact .refl _ _
 rw[ap Ss]at e;by_cases k11:o.k=11
 ·rw[aq k11]at e;rw[e];show Xt x (vI x _ _) o;unfold vI;split
  ·exact .refl _ _
  ·exact⟨rfl,rfl,by simp,λh=>GQ h (by have:=Pv (k:=(sk o).toNat) h;unfold RR;rw[cT,fu,qA];omega),.inl rfl⟩
 rw[ap k11]at e;by_cases kp:o.nw<x.now
 ·rw[aq kp]at e;rw[e];exact .refl _ _
 ·rw[ap kp]at e;rw[e];obtain⟨a,b,c,d⟩:=RS x o.nw (Zy x o.nw);exact⟨a,c,d,λh=>PG o.nw (Zy x o.nw) {x with now:=o.nw} (λl hl=>by have:=h l hl;omega),.inr b⟩
def Bnd.do{x:cK}(h:Bnd x)(o:jS)(xx:o.nw<9223372036854775808):Bnd (Cg x o).1/\(Cg x o).1.v=x.v:=by
 unfold Cg;by_cases c:UU x=0;case neg=>rw[ap c];exact⟨h,rfl⟩
 rw[aq c];have hg:=aaI c;have hl:∀l∈x.qs,l.length<=64:=λl hl=>by obtain⟨k,hk,rfl⟩:=zb hl;have:=(hg.q k hk).1;simpa[js,List.getD,bS hk]using this
 have hk:=XL x o;have hn:=h.now;have:Bnd (cQ x o).1/\(cQ x o).1.v=x.v:=⟨⟨by rw[hk.v];exact h.v,by rw[hk.st];exact h.st,by rw[hk.qs];exact h.qs,λl zS=>by have:=hk.q hl l zS;omega,by rcases hk.now with e|e<;>omega⟩,hk.v⟩;unfold B9;split
 ·split
  ·split
   ·exact this
   ·exact⟨h,rfl⟩
  ·exact⟨h,rfl⟩
 ·exact⟨h,rfl⟩
def g87:Tryz.prog.eqGuardType Tryz.prog.depth 87=false:=by kernel_rfl
def q87(x y:fA):I7 Tryz.prog 8 87 (me x) (me y)=tQ [(x.st,y.st),(x.ow,y.ow),(x.dl,y.dl),(x.se,y.se),(x.ep,y.ep)]:=by kernel_rfl
def NV(x:fA)(c d:Bool)(W:AW):bs Tryz.prog .neq 87 c d (me x) (me x) W=some (.bool false,W):=by refine od g87 (r:=true) ((q87 ..).trans ?_);simp only[pf,eK,wB,beq_self_eq_true,lX]
def Xi{W:AW}{a b:ad}{x:cK}(ha:adn W a x)(hb:adn W b x)(hv:x.v.aA.length<1000)(hr:∀s∈x.v.aA,s.rows.length<1000)(hn:x.st.length<=10000)(hq:x.qs.length<=10000)(hl:∀l∈x.qs,l.length<=10000):
 bf (.func (.func 10) #[] #[]) [a,b] W=some (.bool true,W):=by
 obtain⟨sv,sq,qq,rfl,hs,wu,hqs⟩:=ha;obtain⟨tv,tq,pq,rfl,ht,hte,hqt⟩:=hb;refine aX rfl ?_ Gg;unfold Dp;obtain⟨V,hV⟩:∃V,V=(W.add (.cells (pI x sv sq qq))).add (.cells (pI x tv tq pq)):=⟨_,rfl⟩;have aS:Le W V:=by rw[hV];exact((Le.refl W).add _).add _
 have g0:V.get W.next=some (.cells (pI x sv sq qq)):=by rw[hV];exact(AW.aD _ _ (by rw[AW.ar];omega)).trans (AW.aH _ _)
 have g1:V.get (W.next+1)=some (.cells (pI x tv tq pq)):=by rw[hV,<-AW.ar W (.cells (pI x sv sq qq))];exact AW.aH _ _
 simp only[SX,AW.ar];rw[<-hV];clear hV;have l0:∀{i:Nat} {u:ad},(pI x sv sq qq)[i]? =some u->bG (.pointer (some ⟨W.next,i,none⟩)) V=some (u,V):=λhi=>aZ (az g0) hi
 have l1:∀{i:Nat} {u:ad},(pI x tv tq pq)[i]? =some u->bG (.pointer (some ⟨W.next+1,i,none⟩)) V=some (u,V):=λhi=>aZ (az g1) hi
 have a0:fd 4 (bi W.next) V=some (kP x.v sv,V):=bV (az g0) rfl;have b0:fd 4 (bi (W.next+1)) V=some (kP x.v tv,V):=bV (az g1) rfl;have a4:=l0 (i:=4) rfl;have a5:=l0 (i:=5) rfl;have a6:=l0 (i:=6) rfl;have b4:=l1 (i:=4) rfl;have b5:=l1 (i:=5) rfl;have b6:=l1 (i:=6) rfl;have anv:=wu.keep aS;have ala:=hte.keep aS;have al9:=hqs.mono aS;have akH:=hqt.mono aS;have d0:decide (x.now=x.now)=true:=be rfl;have d1:decide ((x.st.length:Int)=(x.st.length:Int))=true:=be rfl;have d2:decide ((x.qs.length:Int)=(x.qs.length:Int))=true:=be rfl;have adK:=λU=>nu wu BZ U 3 #[false]
 have aky:=λU=>nu hte BZ U 3 #[false]
 have lqA:=λU=>Row.len hqs Fs U 3 #[false]
 have lqB:=λU=>Row.len hqt Fs U 3 #[false]
 simp only[SX,aN,a0,b0,Nu (jD.mono hs.1 aS) (jD.mono ht.1 aS) hv hr,a4,b4,a5,b5,adK,aky,a6,b6,lqA,lqB];refine bz x.st.length (by omega) (λk R U=>U=V/\R 2=bi W.next/\R 3=bi (W.next+1)/\R 5=.af (k:Int)) (λr=>r.1=.exit 0/\r.2.2=V/\r.2.1 2=bi W.next/\r.2.1 3=bi (W.next+1)) ⟨rfl,rfl,rfl,rfl⟩ ?_ ?_ ?_
 ·rintro k R _ hk ⟨rfl,r2,r3,r5⟩;unfold qL;have t1:decide ((k:Int)<(x.st.length:Int))=true:=dj;have t2:=λW'=>bJ W' k 1
  have e3:((k+1:Nat):Int)=(k:Int)+1:=by omega
  obtain⟨p,o,c1,c2,c3⟩:=Qm.get anv hk;obtain⟨q,m,c4,c5,c6⟩:=Qm.get ala hk;simp only[SX,r2,r3,r5,aN,a5,b5,adK,t1,c1,c3 _ rfl,c4,c6 _ rfl,NV,t2,ai];exact .inl ⟨ao,ao,r2,r3,by rw[e3];rfl⟩
 ·rintro R _ ⟨rfl,r2,r3,r5⟩;unfold qL;have t1:decide ((x.st.length:Int)<(x.st.length:Int))=false:=cN;simp only[SX,r2,r5,aN,a5,adK,t1,ai];exact⟨by simp,ao,ao,r2,r3⟩
 rintro⟨e,R,U⟩ ⟨rfl,hU,r2,r3⟩;have hU:V=U:=Eq.symm hU;subst hU;simp only[SX];refine bz x.qs.length (by omega) (λk R U=>U=V/\R 2=bi W.next/\R 3=bi (W.next+1)/\R 6=.af (k:Int)) (λr=>r.1=.exit 2/\r.2.2=V) ⟨rfl,r2,r3,rfl⟩ ?_ ?_ ?_
 ·rintro k R U hk ⟨hU,r2,r3,r6⟩;have hU:V=U:=Eq.symm hU;subst hU;unfold qw;have t1:decide ((k:Int)<(x.qs.length:Int))=true:=dj;have t2:=λW'=>bJ W' k 1
  have e3:((k+1:Nat):Int)=(k:Int)+1:=by omega
  obtain⟨p,o,u,c1,c2,c3,c4⟩:=Rc.get al9 hk;obtain⟨q,m,w,c5,c6,c7,c8⟩:=Rc.get akH hk;have hlk:=hl _ (ez hk);have d3:decide ((x.qs[k].length:Int)=(x.qs[k].length:Int))=true:=be rfl;have luA:=λU=>nu c3 xN U 3 #[false]
  have luB:=λU=>nu c7 xN U 3 #[false]
  simp only[SX,r2,r3,r6,aN,a6,b6,lqA,t1,c1,c4 _ rfl,luA,c5,c8 _ rfl,luB];refine bz x.qs[k].length (by omega) (λj R U=>U=V/\R 2=bi W.next/\R 3=bi (W.next+1)/\R 6=.af (k:Int)/\R 7=.af (j:Int)) (λr=>r.1=.exit 4/\r.2.2=V/\r.2.1 2=bi W.next/\r.2.1 3=bi (W.next+1)/\r.2.1 6=.af (k:Int)) ⟨rfl,r2,r3,r6,rfl⟩ ?_ ?_ ?_
  ·rintro j R _ hj ⟨rfl,r2,r3,r6,r7⟩;unfold mB;have t1:decide ((j:Int)<(x.qs[k].length:Int))=true:=dj;have t2:=λW'=>bJ W' j 1
   have e3:((j+1:Nat):Int)=(j:Int)+1:=by omega
   obtain⟨s,i,y1,y2,y3⟩:=QC.get c3 hj;obtain⟨s',i',z1,z2,z3⟩:=QC.get c7 hj;have d4:decide ((x.qs[k])[j]=(x.qs[k])[j])=true:=be rfl;simp only[SX,r2,r3,r6,r7,aN,a6,b6,c1,c4 _ rfl,luA,t1,c5,c8 _ rfl,y1,y3 _ rfl,z1,z3 _ rfl,t2,ai];exact .inl ⟨ao,ao,r2,r3,r6,by rw[e3];rfl⟩
  ·rintro R _ ⟨rfl,r2,r3,r6,r7⟩;unfold mB;have t1:decide ((x.qs[k].length:Int)<(x.qs[k].length:Int))=false:=cN;simp only[SX,r2,r6,r7,aN,a6,c1,c4 _ rfl,luA,t1,ai];exact⟨by simp,ao,ao,r2,r3,r6⟩
  ·rintro⟨e,R,_⟩ ⟨rfl,rfl,r2,r3,r6⟩;have r6':R 6=.af (k:Int):=r6;simp only[SX,r6',t2,ai];exact .inl ⟨ao,ao,r2,r3,by rw[e3];rfl⟩
 ·rintro R _ ⟨rfl,r2,r3,r6⟩;unfold qw;have t1:decide ((x.qs.length:Int)<(x.qs.length:Int))=false:=cN;simp only[SX,r2,r6,aN,a6,lqA,t1,ai];exact⟨by simp,ao,ao⟩
 ·rintro⟨e,R,_⟩ ⟨rfl,rfl⟩;simp only[SX,ai];exact⟨ao,aS⟩
def Dw(v:fc):cK:=⟨v,0,List.replicate (bO v.aA).toNat BG,List.replicate v.aA.length []⟩
abbrev ew:ad:=.slice none 0 0
def b87:(Tryz.prog.info? 87).map (·.bytes)=some 40:=by kernel_rfl
def t87:kQ Tryz.prog 87=some 5:=by kernel_rfl
def z87:iM Tryz.prog 87=some (me BG):=by kernel_rfl
def b88:(Tryz.prog.info? 88).map (·.bytes)=some 24:=by kernel_rfl
def t88:kQ Tryz.prog 88=some 1:=by kernel_rfl
def z88:iM Tryz.prog 88=some ew:=by kernel_rfl
def u31:Tryz.prog.underlying 31=some (.slice 87):=by kernel_rfl
def alZ:Tryz.prog.underlying 32=some (.slice 88):=by kernel_rfl
def OM(n:Nat):tZ (fo BG) n=(List.replicate n BG).flatMap fo:=by
 induction n with
 |zero=>rfl
 |succ n ih=>show fo BG++tZ (fo BG) n=_;rw[ih,CK,gU]
def Hk(n:Nat):tZ [ew] n=List.replicate n ew:=by
 induction n with
 |zero=>rfl
 |succ n ih=>show [ew]++tZ [ew] n=_;rw[ih,CK];rfl
def al8{n:Nat}(h:n<=10000)(W:AW):eN Tryz.prog 31 (.af (n:Int)) (.af (n:Int)) W=some (oh W.next n,W.add (.cells ((List.replicate n BG).flatMap fo))):=by
 show eN Tryz.prog 31 (.af (Int.ofNat n)) (.af (Int.ofNat n)) W=_;unfold eN;have e:=vK (z:=me BG) (len:=n) (n:=5) rfl;have e2:(iP (me BG) (n*5)).toList=(List.replicate n BG).flatMap fo:=by rw[e];exact OM n
 have e3:((List.replicate n BG).flatMap fo).all bZ=true:=by rw[<-OM];exact rJ _ _ rfl n
 simp only[u31,t87,z87,b87];rw[e2,aq ⟨aM _,by omega,by omega,e3⟩]
def akM{n:Nat}(h:n<=10000)(W:AW):eN Tryz.prog 32 (.af (n:Int)) (.af (n:Int)) W=some (oh W.next n,W.add (.cells (List.replicate n ew))):=by
 show eN Tryz.prog 32 (.af (Int.ofNat n)) (.af (Int.ofNat n)) W=_;unfold eN;have e:=vK (z:=ew) (len:=n) (n:=1) rfl;have e2:(iP ew (n*1)).toList=List.replicate n ew:=by rw[e];exact Hk n
 have e3:(List.replicate n ew).all bZ=true:=by rw[<-Hk];exact rJ _ _ rfl n
 simp only[alZ,t88,z88,b88];rw[e2,aq ⟨aM _,by omega,by omega,e3⟩]
def acN(v:fc)(sv:ad)(hs:Eng.one sv=true)(a n b k:Nat)(W:AW):dX Tryz.prog 34 [(0,kP v sv),(2,oh a n),(3,oh b k)] W=some (oA (Dw v) sv (oh a n) (oh b k),W):=aL (by kernel_rfl) rfl
def abU{W:AW}{b n:Nat}(hb:b<W.next)(h:W.get b=some (.cells ((List.replicate n BG).flatMap fo))):Qm W (oh b n) (List.replicate n BG):=by refine⟨_,_,by rw[xT],.inr ⟨b,0,_,rfl,hb,az h,?_⟩⟩;rw[jF,<-cD pN,cY]
def abr{W:AW}{b n:Nat}{c:Nat}(hb:b<W.next)(h:W.get b=some (.cells (List.replicate n ew))):Rc W (.slice (some ⟨b,0,none⟩) n c) (List.replicate n []):=by refine⟨_,_,by rw[xT],.inr ⟨b,0,_,rfl,hb,az h,λi hi=>?_⟩⟩;rw[xT]at hi;rw[List.getElem_replicate];exact⟨ew,by simp[hi],_,_,rfl,.inl rfl⟩
abbrev qe:List ad:=[.af 0,.af 0,.af 0,.slice none 0 0,.af 0,.slice none 0 0,.slice none 0 0]
def abF{W:AW}{b:Nat}{x:cK}{sv sq qq e:ad}(h1:Eng.one sv=true)(h2:Eng.one sq=true)(h3:Eng.one qq=true)(g:W.get b=some (.cells qe)):∃V,gv 7 (bi b) (oA x sv sq qq) W=some (ak,V)/\iS Tryz.prog [(bi b,some 34),(e,none)] V=some (.tuple #[oA x sv sq qq,e],V)/\V.next=W.next/\∀d,d≠b->V.get d=W.get d:=by have s7:=kJ (W:=W) (b:=b) (n:=7) (vs:=(pI x sv sq qq).toArray) g rfl rfl (by simp[eK,h1,h2,h3,gH]);refine⟨W.put b (.cells (pI x sv sq qq)),s7,?_,AW.bh _ _ _,λd hd=>AW.ay _ _ (aV hd)⟩;rw[cr,O9,bV (n:=7) (o:=0) (az (AW.aW _ _ _)) rfl];rfl
def YL{Z W:AW}{v:fc}{sv:ad}(Hc:iO Z sv v.aA)(hz:Le Z W)(he:(fp v).2=0)(hv:v.aA.length<1000):
 ∃u W',bf (.func (.func 24) #[] #[]) [kP v sv] W=some (.tuple #[u,.af 0],W')/\Le W W'/\MdK Z W W' u (Dw v):=by
 have hs:=Hc.mono hz;have h1:=row_one hs.1;obtain⟨Um,-,-,-,ht,-⟩:=df he;have ht0:=G4 Um;have sX:Ok (Bk bf (kP v sv) W) λr=>∃u,r.1=.tuple #[u,.af 0]/\Le W r.2/\MdK Z W r.2 u (Dw v):=by
  unfold Bk;have wu:=Fp (W:=(W.add (.cells [.af v.sh,.af v.dS,.af v.g9,sv])).add (.cells qe)) (hs.mono (((Le.refl W).add _).add _)) hv;have e2:(dh v).2=0:=by unfold dh;rw[aq he]
  have e1:(dh v).1=(((bO v.aA).toNat:Nat):Int):=by unfold dh;rw[aq he];show bO v.aA=_;omega
  rw[e1,e2]at wu;obtain⟨V,hV⟩:∃V,V=(W.add (.cells [.af v.sh,.af v.dS,.af v.g9,sv])).add (.cells qe):=⟨_,rfl⟩;have n1:V.next=W.next+2:=by rw[hV];rfl
  have aS:Le W V:=by rw[hV];exact((Le.refl W).add _).add _
  have g0:V.get W.next=some (.cells [.af v.sh,.af v.dS,.af v.g9,sv]):=by rw[hV];exact(AW.aD _ _ (by rw[AW.ar];omega)).trans (AW.aH _ _)
  have g1:V.get (W.next+1)=some (.cells qe):=by rw[hV,<-AW.ar W (.cells [.af v.sh,.af v.dS,.af v.g9,sv])];exact AW.aH _ _
  have l4:∀U,U.get W.next=V.get W.next->fd 4 (bi W.next) U=some (kP v sv,U):=λU hU=>bV (az (hU.trans g0)) rfl
  have l3:∀U,U.get W.next=V.get W.next->bG (.pointer (some ⟨W.next,3,none⟩)) U=some (sv,U):=λU hU=>aZ (az (hU.trans g0)) rfl
  have d0:decide ((0:Int)=0)=true:=rfl;have bx:nG (kP v sv) W=some (bi W.next,W.add (.cells [.af v.sh,.af v.dS,.af v.g9,sv])):=jf _;rw[<-hV]at wu;simp only[SX,bx,EA,AW.ar];rw[<-hV];clear hV;obtain⟨V1,yj⟩:∃V1,V1=V.add (.cells ((List.replicate (bO v.aA).toNat BG).flatMap fo)):=⟨_,rfl⟩;have q1:∀d,d<V.next->V1.get d=V.get d:=λd hd=>by rw[yj];exact AW.aD _ _ (by omega)
  have nV1:V1.next=V.next+1:=by rw[yj];rfl
  have gs:V1.get V.next=some (.cells ((List.replicate (bO v.aA).toNat BG).flatMap fo)):=by rw[yj];exact AW.aH _ _
  obtain⟨V2,Mh⟩:∃V2,V2=V1.add (.cells (List.replicate v.aA.length ew)):=⟨_,rfl⟩;have q2:∀d,d<V1.next->V2.get d=V1.get d:=λd hd=>by rw[Mh];exact AW.aD _ _ (by omega)
  have nV2:V2.next=V1.next+1:=by rw[Mh];rfl
  have gq:V2.get V1.next=some (.cells (List.replicate v.aA.length ew)):=by rw[Mh];exact AW.aH _ _
  obtain⟨V3,p1,p2,p3,p4⟩:=abF (W:=V2) (b:=W.next+1) (x:=Dw v) (sv:=sv) (sq:=oh V.next (bO v.aA).toNat) (qq:=oh V1.next v.aA.length) (e:=.af 0) h1 rfl rfl (((q2 _ (by omega)).trans (q1 _ (by omega))).trans g1);have m1:=al8 (n:=(bO v.aA).toNat) (by omega) V;rw[<-yj]at m1;have m2:=akM (n:=v.aA.length) (by omega) V1;rw[<-Mh]at m2;simp only[SX,l4 V rfl,wu,m1,aN,l3 V1 (q1 _ (by omega)),Row.len hs.1 L3,m2,acN v sv h1,p1,p2,ai];have Hu:Le W V3:=⟨by omega,λd hd=>(p4 d (by omega)).trans ((q2 d (by omega)).trans ((q1 d (by omega)).trans (aS.get d hd)))⟩;exact⟨_,rfl,Hu,λU hn hu=>⟨sv,_,_,rfl,Hc,abU (by omega) ((hu _ (.inr (by omega)) (by omega)).trans ((p4 _ (by omega)).trans ((q2 _ (by omega)).trans gs))),abr (by omega) ((hu _ (.inr (by omega)) (by omega)).trans ((p4 _ (by omega)).trans gq))⟩⟩
 obtain⟨⟨u,V⟩,k1,w,rfl,k2,k3⟩:=sX;have tL:=Im k1;unfold OG at tL;unfold gc at tL;by_cases hp:(bC (.tuple #[w,.af 0])&& !XE (.tuple #[w,.af 0]))=true/\Le W V
 ·exfalso;obtain⟨sv',sq',qq',rfl,m1,m2,m3⟩:=k3.at;obtain⟨-,a,c,rfl,-,h4⟩:=m1;obtain⟨b,o,rfl⟩:=h4 (λe=>by have:=(df he).2.2.1;rw[show(Dw v).v.aA=v.aA from rfl]at e;rw[e]at this;exact absurd this (by simp));simp[bC,eQ,bZ]at hp
 ·rw[ap hp]at tL;exact⟨_,V,tL,k2,k3⟩
def CJ:cK:=⟨⟨0,0,0,[]⟩,0,[],[]⟩
end Go.Proofs.YtmaoneengdafhaaGreatDoor
