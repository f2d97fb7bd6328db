/- Callees that are answered for: texts. -/
import Derived.Test.YtmaoneengdafhaaGreatDoorPartB
import Derived.Lib.Join
import Derived.Lib.Builder
import Derived.Below
set_option linter.unusedVariables false
set_option linter.unusedSectionVars false
set_option linter.defProp false
noncomputable section
open Go renaming Program->ah,Value->ad,World->ar
namespace Go.Eng
open Go Go.RowKit
section
variable [ai]
def GC(F:Nat)(val:List ad->AW->Option ad):Callee:=λf args W=>match f with
 |.func (.func g) fs cs=>(match Nat.beq g F&&(fs.isEmpty&&cs.isEmpty)with
  |true=>(match val args W with
   |some v=>some (v,W)
   |none=>none)
  |false=>none)
 |_=>none
def No{P:ah}{ng:List Nat}{F:Nat}{fn:Func}{body:Code}(Mn:P.funcs[F]? =some fn)(qC:(fn.name== "runtime.NumGoroutine")=false)(hb:fn.body=some body){val:List ad->AW->Option ad}
 (yz:∀args W v,val args W=some v->bN v=true/\∀σ (w:ar) cZ,bI σ W w.heap->LR σ args cZ->Calls P F cZ.toArray w λe w'=>e=.returned v/\eG w w'):cl P ng (GC F val):=by
 intro f args W v W' h σ w f' cZ hW hG hf db;unfold GC at h;split at h;case h_2=>cases h
 rename_i g fs cs;split at h;case h_2=>cases h
 rename_i QQ;simp only[bA,fo,Bq]at QQ;obtain⟨rfl,rfl,rfl⟩:=QQ;split at h;case h_2=>cases h
 rename_i u hu;injection h with h;injection h with h1 h2;subst h1;subst h2;obtain⟨LO,yj,cU,E1,HP,nT,rfl⟩:=hf.mR;cases E1;obtain rfl:yj=#[]:=by have h1:yj.toList.length=0:=HP.1.symm;exact vt.1 (mi.1 h1)
 obtain rfl:cU=#[]:=by have h1:cU.toList.length=0:=nT.1.symm;exact vt.1 (mi.1 h1)
 obtain⟨pP,hc⟩:=yz _ _ _ hu;refine⟨fk Mn qC hb _ w,?_⟩;have e1:(#[]:Array ad)++cZ.toArray++#[]=cZ.toArray:=by simp
 rw[e1];refine pf (show CallsIn Fence.wide 0 P g _ w _ from(uj (n:=0)).2 (hc σ w cZ hW db)) ?_;rintro e w' ⟨rfl,hq⟩;exact⟨_,rfl,σ,jJ pP,hq.rel hW,hq.ext σ W⟩
def Rk{w w':ar}(h:Below w.heap.size w w'):eG w w':=⟨h.os,h.tape,h.output,h.size,h.block⟩
def strOf(v:ad):Option ByteArray:=match v with
 |.string s=>some s
 |_=>none
def PK:List ad->Option (List ByteArray):=List.rec (motive:=λ_=>Option (List ByteArray)) (some []) (λv _ ih=>match strOf v with
 |some b=>ih.map (λl=>b::l)
 |none=>none)
def Kq:∀{cs:List ad} {l:List ByteArray},PK cs=some l->cs=l.map Value.string
 |[],l,h=>by injection h with h;subst h;rfl
 |v::cs,l,h=>by
  have h':(match strOf v with
   |some b=>(PK cs).map (λl=>b::l)
   |none=>none)=some l:=h;cases hv:strOf v with
  |none=>rw[hv]at h';cases h'
  |some b0=>
   rw[hv]at h';cases hb:PK cs with
   |none=>rw[hb]at h';cases h'
   |some l0=>rw[hb]at h';injection h' with h';subst h';rw[Kq hb];cases v<;>first|(injection hv with hv;subst hv;rfl)|cases hv
def QZ(xs:List ByteArray)(sep:ByteArray):List UInt8:=Lib.join (xs.map (·.data.toList)) sep.data.toList
def Dy(args:List ad)(W:AW):Option ad:=match args with
 |[.slice (some a) n c,.string sep]=>(match cp W (.slice (some a) n c) n with
  |some cs=>(match PK cs with
   |some xs=>if 0<n/\n<=1099511627776/\n<=c/\(QZ xs sep).length<=1099511627776 then some (.string ⟨(QZ xs sep).toArray⟩)else none
   |none=>none)
  |none=>none)
 |_=>none
def UD{args:List ad}{W:AW}{v:ad}(h:Dy args W=some v):∃a n c sep xs,args=[.slice (some a) n c,.string sep]/\cp W (.slice (some a) n c) n=some (xs.map Value.string)/\0<n/\n<=1099511627776/\n<=c/\(QZ xs sep).length<=1099511627776/\v=.string ⟨(QZ xs sep).toArray⟩:=by
 unfold Dy at h;split at h;case h_2=>cases h
 rename_i a n c sep;split at h;case h_2=>cases h
 rename_i cs nT;split at h;case h_2=>cases h
 rename_i xs hxs;split at h;case isFalse=>cases h
 rename_i hc;injection h with h;have:=Kq hxs;subst this;exact⟨a,n,c,sep,xs,rfl,nT,hc.1,hc.2.1,hc.2.2.1,hc.2.2.2,h.symm⟩
def US{P:ah}{F:Nat}(hJ:∀(bk o c:Nat) (xs:List ByteArray) (sep:ByteArray) (w:ar),(∀(j:Nat) x,xs[j]? =some x->w.cell? ⟨bk,o+j,none⟩=some (.string x))->bk<w.heap.size->xs.length<=140737488355328->xs.length<=c->
 (Lib.join (xs.map (·.data.toList)) sep.data.toList).length<=140737488355328->
 Calls P F #[.slice (some ⟨bk,o,none⟩) xs.length c,.string sep] w λe w'=>e=.returned (.string ⟨(Lib.join (xs.map (·.data.toList)) sep.data.toList).toArray⟩)/\Below w.heap.size w w')
 {args:List ad}{W:AW}{v:ad}(h:Dy args W=some v):bN v=true/\∀σ (w:ar) cZ,bI σ W w.heap->LR σ args cZ->Calls P F cZ.toArray w λe w'=>e=.returned v/\eG w w':=by
 obtain⟨a,n,c,sep,xs,rfl,hr,h0,hn,hnc,hl,rfl⟩:=UD h;refine⟨rfl,λσ w cZ hW db=>?_⟩;obtain⟨v',l',rfl,hv,hl1⟩:=db.of_cons;obtain⟨s',l'',rfl,hs,C0⟩:=hl1.of_cons;obtain rfl:=C0.of_nil;have Gc:s'=.string sep:=VR.CV hs;subst Gc;cases hv with
 |dO=>omega
 |slice _ _ _ c' g hg wN hc=>
  have hc2:n<=c':=by rcases hc.inv with⟨_,h2⟩|⟨_,_,_,h2,_⟩<;>omega
  obtain⟨a',c2,cU,e,h1,h2,h3⟩:=il (z:=1) hW (by rw[iI];exact hr) (.slice a n c c' g hg wN hc) (by omega);injection e with e1 e2 e3;injection e1 with e1;subst e1;subst e3;rw[iI,fj]at h2;have hB:=(hW.qP _ _ hg).2;have:=hJ g.B (g.s+a.off) c' xs sep w (λj x hj=>by obtain⟨u,u1,u2⟩:=h1.get (show(xs.map Value.string)[j]? =some (.string x)by rw[ly,hj];rfl);have h4:=h3 j u u1;rw[dv]at h4;cases u2;exact h4) hB (by omega) (by omega) (by unfold QZ at hl;omega);rw[h2]at this;exact this.mono λe w' ⟨he,hb⟩=>⟨he,Rk hb⟩
def Wx(F:Nat)(T:TypeId):Callee:=λf args W=>match f with
 |.func (.func g) fs cs=>(match Nat.beq g F&&(fs.isEmpty&&cs.isEmpty)with
  |true=>(match args with
   |[.pointer (some ⟨b,0,none⟩)]=>(match W.get b with
    |some (.tc t [p,s])=>if t=T then(match p with
     |.pointer none=>some (.tuple #[],W.put b (.tc T [.pointer (some ⟨b,0,none⟩),s]))
     |.pointer (some ⟨b2,0,none⟩)=>if b2=b then some (.tuple #[],W)else none
     |_=>none)else none
    |_=>none)
   |_=>none)
  |false=>none)
 |_=>none
def abm{P:ah}{ng:List Nat}{F:Nat}{T:TypeId}{fn:Func}{body:Code}(Mn:P.funcs[F]? =some fn)(qC:(fn.name== "runtime.NumGoroutine")=false)(hb:fn.body=some body)(IS:ai.ex T=true)
 (aow:∀(b:Nat) (w:ar),w.cell? ⟨b,0,none⟩=some (.pointer (some ⟨b,0,none⟩))->Calls P F #[.pointer (some ⟨b,0,none⟩)] w λe w'=>e=.returned (.tuple #[])/\w'=w)
 (Oh:∀(b:Nat) (w:ar),w.cell? ⟨b,0,none⟩=some (.pointer none)->w.shape? b=some (T,2)->w.frozen? ⟨b,0,none⟩=false->Calls P F #[.pointer (some ⟨b,0,none⟩)] w λe w'=>e=.returned (.tuple #[])/\w'=w.setCell ⟨b,0,none⟩ (.pointer (some ⟨b,0,none⟩))):
 cl P ng (Wx F T):=by
 intro f args W v W' h σ w f' cZ hW hG hf db;unfold Wx at h;split at h;case h_2=>cases h
 rename_i g fs cs;split at h;case h_2=>cases h
 rename_i QQ;simp only[bA,fo,Bq]at QQ;obtain⟨rfl,rfl,rfl⟩:=QQ;split at h;case h_2=>cases h
 rename_i b;split at h;case h_2=>cases h
 rename_i t p s dX;split at h;case isFalse=>cases h
 rename_i hT;subst hT;obtain⟨LO,yj,cU,E1,HP,nT,rfl⟩:=hf.mR;cases E1;obtain rfl:yj=#[]:=by have h1:yj.toList.length=0:=HP.1.symm;exact vt.1 (mi.1 h1)
 obtain rfl:cU=#[]:=by have h1:cU.toList.length=0:=nT.1.symm;exact vt.1 (mi.1 h1)
 obtain⟨x',l',rfl,hx,hl⟩:=db.of_cons;obtain rfl:=hl.of_nil;obtain⟨gs,Zz,_,rfl⟩:=hx.xm;refine⟨fk Mn qC hb _ w,?_⟩;have e1:(#[]:Array ad)++[Value.pointer (some ⟨gs.B,gs.s+0,none⟩)].toArray++#[]=#[.pointer (some ⟨gs.B,gs.s+0,none⟩)]:=by simp
 rw[e1];obtain⟨a1,a2,a3,c,q1,q2,q3,q4⟩:=hW.obj b _ gs dX Zz;have a4:=a3.2 IS;simp only[cP,p8]at a4;rw[a1];obtain⟨p',hp1,hp2⟩:=q4 0 p rfl;obtain⟨s',LP,Du⟩:=q4 1 s rfl;have vS:c.size=2:=by omega
 split at h
 ·injection h with h;injection h with h1 h2;subst h1;subst h2;obtain rfl:p'=.pointer none:=by cases hp2;rfl
  refine pf (show CallsIn Fence.wide 0 P g _ w _ from(uj (n:=0)).2 (Oh gs.B w (by simp[World.cell?,q1,hp1]) (by simp[World.shape?,q1,vS]) (pw.aoT (hW.obj b _ gs dX Zz) (λ_ hx=>by cases hx) (by omega) rfl))) ?_;rintro e w' ⟨rfl,rfl⟩;have vL:(w.setCell ⟨gs.B,0,none⟩ (.pointer (some ⟨gs.B,0,none⟩))).heap[gs.B]? =some (.cells (c.setIfInBounds 0 (.pointer (some ⟨gs.B,0,none⟩))) t (0,0)):=by show(w.heap.modify gs.B _)[gs.B]? =_;rw[Ai,an rfl,q1];rfl
  obtain⟨r1,r2⟩:=hW.acE (w':=w.setCell ⟨gs.B,0,none⟩ (.pointer (some ⟨gs.B,0,none⟩))) (cU:=[.pointer (some ⟨b,0,none⟩),s]) dX Zz (by show(w.heap.modify _ _).size=_;simp) rfl rfl rfl
   (λB hB=>by show(w.heap.modify gs.B _)[B]? =_;rw[Ai,aq (bh hB)]) q1 vL (by simp) rfl (λi v hv=>by
    match i,hv with
    |0,hv=>simp only[FI,iW]at hv;subst hv;refine⟨.pointer (some ⟨gs.B,gs.s+0,none⟩),?_,.ptr ⟨b,0,none⟩ gs Zz rfl⟩;rw[a1];simp only[IH,eQ,bi];rw[kH]
    |1,hv=>simp only[Ef,FI,iW]at hv;subst hv;exact⟨s',by rw[F1 (by omega)];exact LP,Du⟩
    |i+2,hv=>simp at hv)
  exact⟨_,rfl,σ,.undef,r1,r2⟩
 ·rename_i b2;split at h;case isFalse=>cases h
  rename_i Qd;subst Qd;injection h with h;injection h with h1 h2;subst h1;subst h2;obtain⟨g2,rJ,_,rfl⟩:=hp2.xm;rw[Zz]at rJ;injection rJ with rJ;subst rJ;rw[a1]at hp1;refine pf (show CallsIn Fence.wide 0 P g _ w _ from(uj (n:=0)).2 (aow gs.B w (by simpa[World.cell?,q1]using hp1))) ?_;rintro e w' ⟨rfl,rfl⟩;exact⟨_,rfl,σ,.undef,hW,fR.refl _ _ _⟩
 ·cases h
end
end Go.Eng
