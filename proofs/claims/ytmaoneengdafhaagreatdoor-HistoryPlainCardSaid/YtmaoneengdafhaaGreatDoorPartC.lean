/- Callees that are answered for: texts. -/
import Derived.Test.YtmaoneengdafhaaGreatDoorPartB
import Derived.Lib.Join
import Derived.Lib.Builder
import Derived.Below
set_option linter.unusedVariables false
set_option linter.unusedSimpArgs false
set_option linter.unusedSectionVars false
set_option linter.defProp false
noncomputable section
open Go renaming Program->ag,Value->ad,World->ar
namespace Go.Eng
open Go Go.RowKit
section
variable [ai]
def Gh(F:Nat)(val:List ad->AW->Option ad):Callee:=λf args W=>match f with
 |.func (.func g) fs cs=>(match Nat.beq g F&&(fs.isEmpty&&cs.isEmpty)with
  |true=>(match val args W with
   |some v=>some (v,W)
   |none=>none)
  |false=>none)
 |_=>none
def Nj{P:ag}{ng:List Nat}{F:Nat}{fn:Func}{body:Code}(LK:P.funcs[F]? =some fn)(qN:(fn.name== "runtime.NumGoroutine")=false)(hb:fn.body=some body){val:List ad->AW->Option ad}
 (yC:∀args W v,val args W=some v->bL v=true/\∀σ (w:ar) cZ,bI σ W w.heap->LR σ args cZ->Calls P F cZ.toArray w λe w'=>e=.returned v/\eE w w'):cl P ng (Gh F val):=by
 intro f args W v W' h σ w f' cZ hW hG hf da;unfold Gh at h;split at h;case h_2=>cases h
 rename_i g fs cs;split at h;case h_2=>cases h
 rename_i Ru;simp only[bA,fq,Au]at Ru;obtain⟨rfl,rfl,rfl⟩:=Ru;split at h;case h_2=>cases h
 rename_i u hu;injection h with h;injection h with h1 h2;subst h1;subst h2;obtain⟨Lo,yg,cV,ET,H4,sW,rfl⟩:=hf.mG;cases ET;obtain rfl:yg=#[]:=by have h1:yg.toList.length=0:=H4.1.symm;exact vE.1 (mw.1 h1)
 obtain rfl:cV=#[]:=by have h1:cV.toList.length=0:=sW.1.symm;exact vE.1 (mw.1 h1)
 obtain⟨qk,hc⟩:=yC _ _ _ hu;refine⟨fk LK qN hb _ w,?_⟩;have e1:(#[]:Array ad)++cZ.toArray++#[]=cZ.toArray:=by simp
 rw[e1];refine oV (show CallsIn Fence.wide 0 P g _ w _ from(uy (n:=0)).2 (hc σ w cZ hW da)) ?_;rintro e w' ⟨rfl,hq⟩;exact⟨_,rfl,σ,jM qk,hq.rel hW,hq.ext σ W⟩
def Rp{w w':ar}(h:Below w.heap.size w w'):eE w w':=⟨h.os,h.tape,h.output,h.size,h.block⟩
def strOf(v:ad):Option ByteArray:=match v with
 |.string s=>some s
 |_=>none
def Om:List ad->Option (List ByteArray):=List.rec (motive:=λ_=>Option (List ByteArray)) (some []) (λv _ ih=>match strOf v with
 |some b=>ih.map (λl=>b::l)
 |none=>none)
def I2:∀{cs:List ad} {l:List ByteArray},Om cs=some l->cs=l.map Value.string
 |[],l,h=>by injection h with h;subst h;rfl
 |v::cs,l,h=>by
  have h':(match strOf v with
   |some b=>(Om cs).map (λl=>b::l)
   |none=>none)=some l:=h;cases hv:strOf v with
  |none=>rw[hv]at h';cases h'
  |some b0=>
   rw[hv]at h';cases hb:Om cs with
   |none=>rw[hb]at h';cases h'
   |some l0=>rw[hb]at h';injection h' with h';subst h';rw[I2 hb];cases v<;>first|(injection hv with hv;subst hv;rfl)|cases hv
def Q3(xs:List ByteArray)(sep:ByteArray):List UInt8:=Lib.join (xs.map (·.data.toList)) sep.data.toList
def EJ(args:List ad)(W:AW):Option ad:=match args with
 |[.slice (some a) n c,.string sep]=>(match cq W (.slice (some a) n c) n with
  |some cs=>(match Om cs with
   |some xs=>if 0<n/\n<=1099511627776/\n<=c/\(Q3 xs sep).length<=1099511627776 then some (.string ⟨(Q3 xs sep).toArray⟩)else none
   |none=>none)
  |none=>none)
 |_=>none
def UL{args:List ad}{W:AW}{v:ad}(h:EJ args W=some v):∃a n c sep xs,args=[.slice (some a) n c,.string sep]/\cq W (.slice (some a) n c) n=some (xs.map Value.string)/\0<n/\n<=1099511627776/\n<=c/\(Q3 xs sep).length<=1099511627776/\v=.string ⟨(Q3 xs sep).toArray⟩:=by
 unfold EJ at h;split at h;case h_2=>cases h
 rename_i a n c sep;split at h;case h_2=>cases h
 rename_i cs sW;split at h;case h_2=>cases h
 rename_i xs hxs;split at h;case isFalse=>cases h
 rename_i hc;injection h with h;have:=I2 hxs;subst this;exact⟨a,n,c,sep,xs,rfl,sW,hc.1,hc.2.1,hc.2.2.1,hc.2.2.2,h.symm⟩
def Ux{P:ag}{F:Nat}(hJ:∀(bk o c:Nat) (xs:List ByteArray) (sep:ByteArray) (w:ar),(∀(j:Nat) x,xs[j]? =some x->w.cell? ⟨bk,o+j,none⟩=some (.string x))->bk<w.heap.size->xs.length<=140737488355328->xs.length<=c->
 (Lib.join (xs.map (·.data.toList)) sep.data.toList).length<=140737488355328->
 Calls P F #[.slice (some ⟨bk,o,none⟩) xs.length c,.string sep] w λe w'=>e=.returned (.string ⟨(Lib.join (xs.map (·.data.toList)) sep.data.toList).toArray⟩)/\Below w.heap.size w w')
 {args:List ad}{W:AW}{v:ad}(h:EJ args W=some v):bL v=true/\∀σ (w:ar) cZ,bI σ W w.heap->LR σ args cZ->Calls P F cZ.toArray w λe w'=>e=.returned v/\eE w w':=by
 obtain⟨a,n,c,sep,xs,rfl,hr,h0,hn,hnc,hl,rfl⟩:=UL h;refine⟨rfl,λσ w cZ hW da=>?_⟩;obtain⟨v',l',rfl,hv,hl1⟩:=da.of_cons;obtain⟨s',l'',rfl,hs,CK⟩:=hl1.of_cons;obtain rfl:=CK.of_nil;have CP:s'=.string sep:=VR.CG hs;subst CP;cases hv with
 |dO=>omega
 |slice _ _ _ c' g hg wS hc=>
  have hc2:n<=c':=by rcases hc.inv with⟨_,h2⟩|⟨_,_,_,h2,_⟩<;>omega
  obtain⟨a',c2,cV,e,h1,h2,h3⟩:=iy (z:=1) hW (by rw[gK];exact hr) (.slice a n c c' g hg wS hc) (by omega);injection e with e1 e2 e3;injection e1 with e1;subst e1;subst e3;rw[gK,eP]at h2;have hB:=(hW.qL _ _ hg).2;have:=hJ g.B (g.s+a.off) c' xs sep w (λj x hj=>by obtain⟨u,u1,u2⟩:=h1.get (show(xs.map Value.string)[j]? =some (.string x)by rw[jJ,hj];rfl);have h4:=h3 j u u1;rw[dH]at h4;cases u2;exact h4) hB (by omega) (by omega) (by unfold Q3 at hl;omega);rw[h2]at this;exact this.mono λe w' ⟨he,hb⟩=>⟨he,Rp hb⟩
def WM(F:Nat)(T:TypeId):Callee:=λf args W=>match f with
 |.func (.func g) fs cs=>(match Nat.beq g F&&(fs.isEmpty&&cs.isEmpty)with
  |true=>(match args with
   |[.pointer (some ⟨b,0,none⟩)]=>(match W.get b with
    |some (.tc t [p,s])=>if t=T then(match p with
     |.pointer none=>some (.tuple #[],W.put b (.tc T [.pointer (some ⟨b,0,none⟩),s]))
     |.pointer (some ⟨b2,0,none⟩)=>if b2=b then some (.tuple #[],W)else none
     |_=>none)else none
    |_=>none)
   |_=>none)
  |false=>none)
 |_=>none
def ad0{P:ag}{ng:List Nat}{F:Nat}{T:TypeId}{fn:Func}{body:Code}(LK:P.funcs[F]? =some fn)(qN:(fn.name== "runtime.NumGoroutine")=false)(hb:fn.body=some body)(IC:ai.ex T=true)
 (apA:∀(b:Nat) (w:ar),w.cell? ⟨b,0,none⟩=some (.pointer (some ⟨b,0,none⟩))->Calls P F #[.pointer (some ⟨b,0,none⟩)] w λe w'=>e=.returned (.tuple #[])/\w'=w)
 (OU:∀(b:Nat) (w:ar),w.cell? ⟨b,0,none⟩=some (.pointer none)->w.shape? b=some (T,2)->w.frozen? ⟨b,0,none⟩=false->Calls P F #[.pointer (some ⟨b,0,none⟩)] w λe w'=>e=.returned (.tuple #[])/\w'=w.setCell ⟨b,0,none⟩ (.pointer (some ⟨b,0,none⟩))):
 cl P ng (WM F T):=by
 intro f args W v W' h σ w f' cZ hW hG hf da;unfold WM at h;split at h;case h_2=>cases h
 rename_i g fs cs;split at h;case h_2=>cases h
 rename_i Ru;simp only[bA,fq,Au]at Ru;obtain⟨rfl,rfl,rfl⟩:=Ru;split at h;case h_2=>cases h
 rename_i b;split at h;case h_2=>cases h
 rename_i t p s dT;split at h;case isFalse=>cases h
 rename_i hT;subst hT;obtain⟨Lo,yg,cV,ET,H4,sW,rfl⟩:=hf.mG;cases ET;obtain rfl:yg=#[]:=by have h1:yg.toList.length=0:=H4.1.symm;exact vE.1 (mw.1 h1)
 obtain rfl:cV=#[]:=by have h1:cV.toList.length=0:=sW.1.symm;exact vE.1 (mw.1 h1)
 obtain⟨x',l',rfl,hx,hl⟩:=da.of_cons;obtain rfl:=hl.of_nil;obtain⟨gs,Zl,_,rfl⟩:=hx.xf;refine⟨fk LK qN hb _ w,?_⟩;have e1:(#[]:Array ad)++[Value.pointer (some ⟨gs.B,gs.s+0,none⟩)].toArray++#[]=#[.pointer (some ⟨gs.B,gs.s+0,none⟩)]:=by simp
 rw[e1];obtain⟨a1,a2,a3,c,q1,q2,q3,q4⟩:=hW.obj b _ gs dT Zl;have a4:=a3.2 IC;simp only[cQ,qB]at a4;rw[a1];obtain⟨p',hp1,hp2⟩:=q4 0 p rfl;obtain⟨s',H3,Cd⟩:=q4 1 s rfl;have vZ:c.size=2:=by omega
 split at h
 ·injection h with h;injection h with h1 h2;subst h1;subst h2;obtain rfl:p'=.pointer none:=by cases hp2;rfl
  refine oV (show CallsIn Fence.wide 0 P g _ w _ from(uy (n:=0)).2 (OU gs.B w (by simp[World.cell?,q1,hp1]) (by simp[World.shape?,q1,vZ]) (pA.ap1 (hW.obj b _ gs dT Zl) (λ_ hx=>by cases hx) (by omega) rfl))) ?_;rintro e w' ⟨rfl,rfl⟩;have sI:(w.setCell ⟨gs.B,0,none⟩ (.pointer (some ⟨gs.B,0,none⟩))).heap[gs.B]? =some (.cells (c.setIfInBounds 0 (.pointer (some ⟨gs.B,0,none⟩))) t (0,0)):=by show(w.heap.modify gs.B _)[gs.B]? =_;rw[Aj,an rfl,q1];rfl
  obtain⟨r1,r2⟩:=hW.aaJ (w':=w.setCell ⟨gs.B,0,none⟩ (.pointer (some ⟨gs.B,0,none⟩))) (cV:=[.pointer (some ⟨b,0,none⟩),s]) dT Zl (by show(w.heap.modify _ _).size=_;simp) rfl rfl rfl
   (λB hB=>by show(w.heap.modify gs.B _)[B]? =_;rw[Aj,ap (bc hB)]) q1 sI (by simp) rfl (λi v hv=>by
    match i,hv with
    |0,hv=>simp only[Fj,jd]at hv;subst hv;refine⟨.pointer (some ⟨gs.B,gs.s+0,none⟩),?_,.ptr ⟨b,0,none⟩ gs Zl rfl⟩;rw[a1];simp only[II,gv,bi];rw[kJ]
    |1,hv=>simp only[Dv,Fj,jd]at hv;subst hv;exact⟨s',by rw[E1 (by omega)];exact H3,Cd⟩
    |i+2,hv=>simp at hv)
  exact⟨_,rfl,σ,.undef,r1,r2⟩
 ·rename_i b2;split at h;case isFalse=>cases h
  rename_i S3;subst S3;injection h with h;injection h with h1 h2;subst h1;subst h2;obtain⟨g2,rX,_,rfl⟩:=hp2.xf;rw[Zl]at rX;injection rX with rX;subst rX;rw[a1]at hp1;refine oV (show CallsIn Fence.wide 0 P g _ w _ from(uy (n:=0)).2 (apA gs.B w (by simpa[World.cell?,q1]using hp1))) ?_;rintro e w' ⟨rfl,rfl⟩;exact⟨_,rfl,σ,.undef,hW,fT.refl _ _ _⟩
 ·cases h
end
end Go.Eng
