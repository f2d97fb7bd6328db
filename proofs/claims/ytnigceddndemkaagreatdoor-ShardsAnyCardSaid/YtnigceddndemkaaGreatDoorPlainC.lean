/- Contracts of functions, and their laws. -/
import Derived.Test.YtnigceddndemkaaGreatDoorPlainB
import Derived.Test.YtnigceddndemkaaGreatDoorSDec
import Derived.Test.YtnigceddndemkaaGreatDoorOpnA
import Derived.KernelRfl
set_option linter.unusedVariables false
set_option linter.unusedSimpArgs false
set_option linter.unusedSectionVars false
namespace Go.Proofs.YtnigceddndemkaaGreatDoor.Ho
open Go Go.Eng Go.Hp
set_option maxRecDepth 100000
theorem MapP.keep{X K:Nat->Prop}{V V':AW}{d:Md}{l:List SeT}{e:Nat->List (Int×Int)}(h:MapP X K V d l e)(hn:V.next<=V'.next)(g:∀b,b<V.next->K b->V'.get b=V.get b)(hw:LeX X d.W0 V'):MapP X K V' d l e:=
 {h with up:=λb hb=>h.up b (by omega),mc:=(g _ h.ml h.kM).trans h.mc,ml:=by have:=h.ml;omega,sc:=(g _ h.sl h.sk).trans h.sc,sl:=by have:=h.sl;omega
         col:=λi hi=>(h.col i hi).keep hn λh0=>g _ ((h.col i hi).lt h0) (h.tk i hi h0).1,ho:=λi hi=>(h.ho i hi).keep hn (λb hb hx=>g b hb (h.ak i hi b hx)) (λb _ hx=>hx)
         al:=λi hi b hb=>by have:=h.al i hi b hb;omega
         w0:=hw}
theorem MapS.keep{K:Nat->Prop}{V V':AW}{M k many:Nat}{v:Ven}{W0:AW}{N:Int}{l:List SeT}(h:MapS K V M k many v W0 N l)(hn:V.next<=V'.next)(g:∀b,b<V.next->K b->V'.get b=V.get b)(hw:Le W0 V'):MapS K V' M k many v W0 N l:=by obtain⟨d,a,b,c,e,rfl,f,i,j,p⟩:=h;exact⟨d,a,b,c,e,rfl,f,i,j,p.keep hn g (LeX.of hw)⟩
theorem MapS.w0{K:Nat->Prop}{V:AW}{M k many:Nat}{v:Ven}{W0:AW}{N:Int}{l:List SeT}(h:MapS K V M k many v W0 N l):Le W0 V:=by obtain⟨d,a,b,c,e,rfl,f,i,j,p⟩:=h;exact p.w0.full
theorem aAk(a b:Int)(W:AW):aG Tryz.prog .max #[3,3] 3 #[false,true] [.int .i64 a,.int .i64 b] W=some (.int .i64 (max a b),W):=by
 have e:aG Tryz.prog .max #[3,3] 3 #[false,true] [.int .i64 a,.int .i64 b] W=(lN Tryz.prog ([Value.int .i64 a,.int .i64 b].all aX) (builtin .max #[3,3] 3 #[false,true] #[.int .i64 a,.int .i64 b])).map λv=>(v,W):=by unfold aG;rfl
 rw[e];have e2:builtin .max #[3,3] 3 #[false,true] #[.int .i64 a,.int .i64 b]=(do pure (.value (<-Builtin.max_ #[3,3] 3 #[.int .i64 a,.int .i64 b]))):=rfl;rw[e2];refine IL ?_ rfl _ rfl;unfold Builtin.max_;simp only[List.foldlM_cons,List.foldlM_nil,dX,Builtin.max2,fC,Option.bind_some];congr 2;split<;>omega
theorem a99(a b:Int)(W:AW):aG Tryz.prog .min #[3,3] 3 #[false,true] [.int .i64 a,.int .i64 b] W=some (.int .i64 (min a b),W):=by
 have e:aG Tryz.prog .min #[3,3] 3 #[false,true] [.int .i64 a,.int .i64 b] W=(lN Tryz.prog ([Value.int .i64 a,.int .i64 b].all aX) (builtin .min #[3,3] 3 #[false,true] #[.int .i64 a,.int .i64 b])).map λv=>(v,W):=by unfold aG;rfl
 rw[e];have e2:builtin .min #[3,3] 3 #[false,true] #[.int .i64 a,.int .i64 b]=(do pure (.value (<-Builtin.min_ #[3,3] 3 #[.int .i64 a,.int .i64 b]))):=rfl;rw[e2];refine IL ?_ rfl _ rfl;unfold Builtin.min_;simp only[List.foldlM_cons,List.foldlM_nil,dX,Builtin.min2,fC,Option.bind_some];congr 2;split<;>omega
theorem a6q(s:ByteArray)(W:AW):∃n:Int,aG Tryz.prog .len #[9] 3 #[false] [.string s] W=some (.int .i64 n,W):=⟨_,rfl⟩
theorem NB:((#[69]:Array TypeId)[0]?).bind Tryz.prog.underlying=some (.slice 3):=by kernel_rfl
theorem aAa(W:AW):∃V,bE Tryz.prog 130 W=some (.pointer (some ⟨W.next,0,none⟩),V)/\Le W V/\V.next=W.next+1/\V.get W.next=some (.cells [.string (aM []),.slice none 0 0,.int .i64 0]):=⟨_,a4b W,(Le.refl _).add _,AW.add_next _ _,AW.get_add _ _⟩
def a7O(v:Ven)(l:List SeT):Prop:=v.secs.length<=10/\l.length<=100/\∀s∈v.secs,s.rows.length<=20
theorem a8m{W:AW}{v:Ven}{sv rv:Value}{l:List SeT}(hs:Secs W sv v.secs)(hr:SeL W rv l):∃c:Bool,aL (.func (.func 15) #[] #[]) [sI v sv,rv] W=some (.bool c,W)/\(c=false->a7O v l):=by
 have main:Ok (FD aL (sI v sv) rv W) λr=>∃c:Bool,r.1=.bool c/\Le W r.2/\(c=false->a7O v l):=by
  unfold FD;obtain⟨W1,k1,k2,k3,k4⟩:=TI v sv W;have c3:∀U,Le W1 U->aP (.pointer (some ⟨W.next,3,none⟩)) U=some (sv,U):=λU hU=>jE (bU ((hU.get _ (by omega)).trans k4)) rfl
  by_cases h10:10<(v.secs.length:Int)
  ·have d1:=decide_eq_true h10;simp only[SX,IJ,I8,k1,c3 W1 (Le.refl _),hs.len BB,d1,aB];exact⟨_,rfl,k2,λx=>by cases x⟩
  have d1:=decide_eq_false h10;by_cases h100:100<(l.length:Int)
  ·have d2:=decide_eq_true h100;simp only[SX,IJ,I8,k1,Nat.zero_add,c3 W1 (Le.refl _),hs.len BB,d1,hr.len wO,d2,aB];exact⟨_,rfl,k2,λx=>by cases x⟩
  have d2:=decide_eq_false h100;simp only[SX,IJ,I8,k1,Nat.zero_add,c3 W1 (Le.refl _),hs.len BB,d1,hr.len wO,d2];refine bF v.secs.length (by omega) (λi R U=>Le W1 U/\R 2=.pointer (some ⟨W.next,0,none⟩)/\R 6=.int .i64 (i:Int)/\(∀j (hj:j<v.secs.length),j<i->v.secs[j].rows.length<=20)/\∃n:Int,R 5=.int .i64 n/\0<=n/\n<=(i:Int)*2000)
   (λr=>Le W1 r.2.2/\((r.1=.exit 0/\(∀s∈v.secs,s.rows.length<=20)/\∃n:Int,r.2.1 5=.int .i64 n)\/(r.1=.ret/\r.2.1 4=.bool true))) ⟨Le.refl _,rfl,rfl,λj hj hx=>by omega,0,rfl,by omega,by omega⟩ ?_ ?_ ?_
  ·rintro i R U hi ⟨u1,r2,r6,hsm,n,r5,n0,n1⟩;unfold vC;have t1:((i:Int)<(v.secs.length:Int)):=by omega
   have t2:=λW'=>aQ (P:=Tryz.prog) (W:=W') (t:=3) (c:=false) (d:=true) (a:=(i:Int)) (b:=1) (by omega) (by omega)
   have e3:((i+1:Nat):Int)=(i:Int)+1:=by omega
   obtain⟨b,o,rv',i1,i2,i3,-⟩:=Secs.get hs hi;obtain⟨U1,a1,a2,a3,a4⟩:=aAa U;have hst:=xY (n:=3) (o:=0) (v:=UL v.secs[i] rv') a4 rfl (Nat.le_refl _) (by show(true&&(Eng.one rv'&&(true&&true)))=true;obtain⟨a,c,rfl,-⟩:=i2;rfl);have hst':fZ 3 (.pointer (some ⟨U.next,0,none⟩)) (UL v.secs[i] rv') U1=some (undef,U1.put U.next (.cells [.string (aM v.secs[i].name),rv',.int .i64 v.secs[i].q])):=hst;obtain⟨U2,hU2⟩:∃U2,U2=U1.put U.next (.cells [.string (aM v.secs[i].name),rv',.int .i64 v.secs[i].q]):=⟨_,rfl⟩;rw[<-hU2]at hst';have l2:Le U U2:=by rw[hU2];exact a2.put (Nat.le_refl _) _
   have n2:U2.next=U.next+1:=by rw[hU2];exact a3
   have g2:U2.get U.next=some (.cells [.string (aM v.secs[i].name),rv',.int .i64 v.secs[i].q]):=by rw[hU2];exact AW.get_put _ _ _
   have x0:aP (.pointer (some ⟨U.next,0,none⟩)) U2=some (.string (aM v.secs[i].name),U2):=jE (bU g2) rfl;have x1:∀Z,Le U2 Z->aP (.pointer (some ⟨U.next,1,none⟩)) Z=some (rv',Z):=λZ hZ=>jE (bU ((hZ.get _ (by omega)).trans g2)) rfl
   obtain⟨m,hm⟩:=a6q (aM v.secs[i].name) U2;have hWU:=k2.trans u1;by_cases c20:20<(v.secs[i].rows.length:Int)
   ·have d3:=decide_eq_true c20;simp only[SX,IJ,I8,r2,r6,Nat.zero_add,c3 U u1,hs.len BB,t1,decide_true,i1,i3 U hWU,a1,hst',x1 U2 (Le.refl _),i2.len NB,d3,aB];exact .inr ⟨by simp,u1.trans l2,.inr ⟨trivial,rfl⟩⟩
   have d3:=decide_eq_false c20;cases d4:decide (100<m)with
   |true=>simp only[SX,IJ,I8,r2,r6,Nat.zero_add,c3 U u1,hs.len BB,t1,decide_true,i1,i3 U hWU,a1,hst',x1 U2 (Le.refl _),i2.len NB,d3,x0,hm,d4,aB];exact .inr ⟨by simp,u1.trans l2,.inr ⟨trivial,rfl⟩⟩
   |false=>
    simp only[SX,IJ,I8,r2,r6,Nat.zero_add,c3 U u1,hs.len BB,t1,decide_true,i1,i3 U hWU,a1,hst',x1 U2 (Le.refl _),i2.len NB,d3,x0,hm,d4];refine bF v.secs[i].rows.length (by omega) (λj Q Z=>Z=U2/\Q 2=.pointer (some ⟨W.next,0,none⟩)/\Q 6=.int .i64 (i:Int)/\Q 7=.pointer (some ⟨U.next,0,none⟩)/\Q 8=.int .i64 (j:Int)/\∃n:Int,Q 5=.int .i64 n/\0<=n/\n<=(i:Int)*2000+(j:Int)*100)
     (λr=>r.1=.exit 2/\r.2.2=U2/\r.2.1 2=.pointer (some ⟨W.next,0,none⟩)/\r.2.1 6=.int .i64 (i:Int)/\∃n:Int,r.2.1 5=.int .i64 n/\0<=n/\n<=(i:Int)*2000+2000) ⟨rfl,r2,r6,rfl,rfl,n,r5,n0,by omega⟩ ?_ ?_ ?_
    ·rintro j Q Z hj ⟨rfl,q2,q6,q7,q8,n',q5,m0,m1⟩;unfold qN;have t3:((j:Int)<(v.secs[i].rows.length:Int)):=by omega
     have t4:=λW'=>aQ (P:=Tryz.prog) (W:=W') (t:=3) (c:=false) (d:=true) (a:=(j:Int)) (b:=1) (by omega) (by omega)
     have e4:((j+1:Nat):Int)=(j:Int)+1:=by omega
     obtain⟨p0,y1,y2⟩:=i2.get hj;generalize v.secs[i].rows[j]=y at *;have hz:0<=min (max y 0) 100/\min (max y 0) 100<=100:=by omega
     have t5:=λW'=>aQ (P:=Tryz.prog) (W:=W') (t:=3) (c:=false) (d:=false) (a:=n') (b:=min (max y 0) 100) (by omega) (by omega)
     simp only[SX,q5,q7,q8,x1 Z (Le.refl _),Nat.zero_add,i2.len NB,t3,decide_true,y1,y2 Z (hWU.trans l2),aAk,a99,t5,t4,aB];exact .inl ⟨trivial,trivial,q2,q6,q7,by rw[e4];rfl,_,rfl,by omega,by omega⟩
    ·rintro Q Z ⟨rfl,q2,q6,q7,q8,n',q5,m0,m1⟩;unfold qN;have t3:¬((v.secs[i].rows.length:Int)<(v.secs[i].rows.length:Int)):=by omega
     simp only[SX,q7,q8,x1 Z (Le.refl _),Nat.zero_add,i2.len NB,t3,decide_false,aB];exact⟨by simp,trivial,trivial,q2,q6,n',q5,m0,by omega⟩
    ·rintro⟨q,Q,Z⟩ ⟨rfl,rfl,q2,q6,n',q5,m0,m1⟩;simp only at q2 q6 q5;simp only[SX,q6,t2,aB];refine .inl ⟨trivial,u1.trans l2,q2,by rw[e3];rfl,λj hj hx=>?_,n',q5,m0,by omega⟩;by_cases c:j=i
     ·subst c;omega
     ·exact hsm j hj (by omega)
  ·rintro R U ⟨u1,r2,r6,hsm,n,r5,n0,n1⟩;unfold vC;have t1:¬((v.secs.length:Int)<(v.secs.length:Int)):=by omega
   simp only[SX,r2,r6,Nat.zero_add,c3 U u1,hs.len BB,t1,decide_false,aB];refine⟨by simp,u1,.inl ⟨trivial,λs hs'=>?_,n,r5⟩⟩;obtain⟨j,hj,rfl⟩:=List.mem_iff_getElem.1 hs';exact hsm j hj hj
  ·rintro⟨q,R,U⟩ ⟨u1,hq⟩;simp only at u1 hq;rcases hq with⟨rfl,hsm,n,r5⟩|⟨rfl,r4⟩
   ·simp only[SX,r5,aB];exact⟨_,rfl,k2.trans u1,λ_=>⟨by omega,by omega,hsm⟩⟩
   ·simp only[SX,r4,aB];exact⟨true,rfl,k2.trans u1,λx=>by cases x⟩
 obtain⟨⟨r,W'⟩,h1,c,h2,h3,h4⟩:=main;simp only at h2 h3;subst h2;exact⟨c,aN rfl ⟨_,h1,rfl,h3⟩ TN,h4⟩
def aB0(n:Nat):List SeT:=List.replicate n J5
section
variable {W:AW} {v:Ven} {sv rv:Value} {l:List SeT}
end
structure Both (K:Nat->Prop) (V:AW) (Wa:AW) (M k:Nat) (v:Ven) (sv rv:Value) (W0:AW) (N:Int) (l:List SeT):Prop where
 map:MapS K V M k l.length v W0 N l
 low:Le Wa W0
 secs:SecsC Wa sv v.secs
 s1:Sl sv
 r1:Sl rv
 np:∃a n c,rv=.slice (some a) n c
 row:∀V',Gr V V' K->SeL V' rv l
 i64:a6E l
 ve:(j6 v).2=0
 tot:(l.length:Int)=bR v.secs
section
variable {K:Nat->Prop} {V Wa:AW} {M k:Nat} {v:Ven} {sv rv:Value} {W0:AW} {N:Int} {l:List SeT}
theorem Both.vk(h:Both K V Wa M k v sv rv W0 N l):v.sh=(k:Int):=h.map.vk
theorem Both.le(h:Both K V Wa M k v sv rv W0 N l){V':AW}(hl:Le V V'):Both (λb=>K b/\b<V.next\/V'.next<=b) V' Wa M k v sv rv W0 N l:=
 {h with map:=h.map.shift hl,row:=λV2 g=>h.row V2 ⟨Nat.le_trans hl.next g.next,λb hb hn=>by
   rw[g.get b (Nat.lt_of_lt_of_le hb hl.next) λc=>by
    rcases c with c|c
    ·exact hn c.1
    ·have:=hl.next;omega];exact hl.get b hb⟩}
theorem Both.out(h:Both K V Wa M k v sv rv W0 N l){b:Nat}(hb:¬K b)(hw:V.next<=b->False)(hlo:W0.next<=b)(o:AObj)(hr:∀V',Gr (V.put b o) V' K->SeL V' rv l):Both K (V.put b o) Wa M k v sv rv W0 N l:=
 {h with map:=h.map.keep (Nat.le_refl _) (λc _ hc=>AW.get_put_ne _ _ λe=>hb (by rw[e];exact hc)) (h.map.w0.put hlo o),row:=hr}
end
structure CaT where
 what:Int
 at_:Int
 now:Int
 s:SeT
abbrev caC(x:CaT):List Value:=.int .u8 x.what::.int .i64 x.at_::.int .i64 x.now::eZ x.s
abbrev caV(x:CaT):Value:=.agg #[.int .u8 x.what,.int .i64 x.at_,.int .i64 x.now,.int .i64 x.s.st,.int .u32 x.s.ow,.int .i64 x.s.dl,.int .u64 x.s.se,.int .u64 x.s.ep]
theorem a2d{x:CaT}{W:AW}{b:Nat}(h:W.get b=some (.cells (caC x))):aP (.pointer (some ⟨b,0,none⟩)) W=some (.int .u8 x.what,W)/\aP (.pointer (some ⟨b,1,none⟩)) W=some (.int .i64 x.at_,W)/\aP (.pointer (some ⟨b,2,none⟩)) W=some (.int .i64 x.now,W)/\eU 5 (.pointer (some ⟨b,3,none⟩)) W=some (pU x.s,W):=
 ⟨jE (bU h) rfl,jE (bU h) rfl,jE (bU h) rfl,qP (bC h) rfl⟩
section
variable {K:Nat->Prop} {V Wa:AW} {M k:Nat} {v:Ven} {sv rv:Value} {W0:AW} {N:Int} {l:List SeT}
theorem Both.stay(h:Both K V Wa M k v sv rv W0 N l){V1 V2:AW}{rv':Value}{l':List SeT}(l1:Le V V1)(l2:Le V1 V2)(hc:(rv'=rv/\l'=l)\/BlS V1.next V2 rv' l'){V':AW}(hn:V2.next<=V'.next)(g:∀b,b<V2.next->(b<V.next/\¬K b\/V1.next<=b)->V'.get b=V2.get b):SeL V' rv' l':=by
 rcases hc with⟨rfl,rfl⟩|hc
 ·refine h.row V' ⟨Nat.le_trans (l1.trans l2).next hn,λb hb hk=>?_⟩;rw[g b (Nat.lt_of_lt_of_le hb (l1.trans l2).next) (.inl ⟨hb,hk⟩)];exact(l1.trans l2).get b hb
 ·exact(hc.keep hn λb h1 h2=>g b h2 (.inr h1)).row
end
def aCH(l:List SeT)(k:Nat)(x:CaT)(d:List (Int×Int)):List SeT:=if x.what.tmod 8=0\/x.what.tmod 8=1\/x.what.tmod 8=2 then NF l x.at_ x.s else if x.what.tmod 8=6 then uJ l x.now d else l
section
variable {K:Nat->Prop} {V Wa:AW} {M k:Nat} {v:Ven} {sv rv:Value} {W0:AW} {N:Int} {l:List SeT}
theorem Both.done(h:Both K V Wa M k v sv rv W0 N l){V1 V2 V3 V4:AW}{rv':Value}{l':List SeT}{N':Int}(l1:Le V V1)(l2:Le V1 V2)(l3:Le V2 V3)(hc:(rv'=rv/\l'=l)\/BlS V1.next V2 rv' l')(hr:Sl rv')(hnp:∃a n c,rv'=.slice (some a) n c)(hlen:l'.length=l.length)(h64:a6E l')
 (hm:MapS (λb=>K b/\b<V.next\/V3.next<=b) V4 M k l.length v W0 N' l')(g:Gr V3 V4 λb=>K b/\b<V.next\/V3.next<=b){r:Nat}(hr1:V.next<=r)(hr2:r<V1.next)(o:AObj):
 Both (λb=>K b/\b<V.next\/V3.next<=b) (V4.put r o) Wa M k v sv rv' W0 N' l'/\Gr V (V4.put r o) K/\∀b,b<V.next->(K b/\b<V.next\/V3.next<=b)->K b:=by
 have n1:=l1.next;have n2:=l2.next;have n3:=l3.next;have n4:=g.next;have hw0:=h.map.w0.next;have keep:∀b,b<V3.next->(b<V.next/\¬K b\/V.next<=b)->V4.get b=V3.get b:=λb hb hk=>g.get b hb λc=>by
  rcases c with c|c
  ·rcases hk with hk|hk
   ·exact hk.2 c.1
   ·omega
  ·omega
 refine⟨{map:=?_,low:=h.low,secs:=h.secs,s1:=h.s1,r1:=hr,np:=hnp,row:=?_,i64:=h64,ve:=h.ve,tot:=by rw[hlen];exact h.tot},?_,?_⟩
 ·rw[hlen];exact hm.keep (Nat.le_refl _) (λb hb hk=>AW.get_put_ne _ _ λe=>by subst e;rcases hk with hk|hk<;>omega) (hm.w0.put (by omega) o)
 ·intro V' g';have hn':=g'.next;rw[AW.put_next]at hn';refine h.stay l1 l2 hc (by omega) λb hb hk=>?_
  have hnk:¬(K b/\b<V.next\/V3.next<=b):=λc=>by
   rcases c with c|c
   ·rcases hk with hk|hk
    ·exact hk.2 c.1
    ·omega
   ·omega
  have hbr:b≠r\/b<V.next:=by
   rcases hk with hk|hk
   ·exact .inr hk.1
   ·exact .inl (by omega)
  rw[g'.get b (by rw[AW.put_next];omega) hnk,AW.get_put_ne _ _ (by omega),keep b (by omega) (by
   rcases hk with hk|hk
   ·exact .inl hk
   ·exact .inr (by omega))];exact l3.get b hb
 ·refine⟨by rw[AW.put_next];omega,λb hb hk=>?_⟩;rw[AW.get_put_ne _ _ (by omega),keep b (by omega) (.inl ⟨hb,hk⟩)];exact((l1.trans l2).trans l3).get b hb
 ·intro b hb hk;rcases hk with hk|hk
  ·exact hk.1
  ·omega
end
def a1v(cs:List Value)(p:Nat)(x:CaT):Prop:=(cs.drop p).take 8=caC x
abbrev CaL(W:AW)(v:Value)(l:List CaT):Prop:=Row W 8 a1v v l
theorem CaL.get{W:AW}{v:Value}{l:List CaT}(h:CaL W v l){i:Nat}(hi:i<l.length):∃p,(∀W' k,jI 8 v (.int k (i:Int)) W'=some (p,W'))/\∀W',Le W W'->eU 8 p W'=some (caV l[i],W'):=by obtain⟨b,o,cs,h1,h2,h3,h4⟩:=h.elem hi;refine⟨_,h1,λW' hle=>?_⟩;have h5:(cs.drop o).take 8=caC l[i]:=h4;rw[AP,hle.cellsAt h2,h3];simp only[Option.bind_some,h5];rfl
theorem IW:((#[54]:Array TypeId)[0]?).bind Tryz.prog.underlying=some (.slice 62):=by kernel_rfl
def a7E(v:Value):Prop:=∃a n c,v=.slice a n c
theorem a6r{V:AW}{c:Nat}{v':Ven}{sv' rv' rv:Value}{l:List SeT}(h1:a7E sv')(h2:a7E rv')(h:SeL (V.put c (.cells (a6c v' sv' rv'))) rv l):SeL V rv l:=by
 obtain⟨a,cc,rfl,hr⟩:=h;rcases hr with hr|⟨B,o,cs,rfl,q1,q2,q3⟩
 ·exact⟨a,cc,rfl,.inl hr⟩
 ·by_cases hl:l=[]
  ·exact⟨_,cc,rfl,.inl hl⟩
  ·have hne:B≠c:=λe=>by
    subst e;have hcs:cs=a6c v' sv' rv':=by unfold cellsAt at q2;rw[AW.get_put]at q2;simp only at q2;injection q2 with q2;exact q2.symm
    obtain⟨-,h3,-⟩:=q3 0 (List.length_pos_iff.2 hl);rw[hcs]at h3;obtain⟨a1,n1,c1,rfl⟩:=h1;obtain⟨a2,n2,c2,rfl⟩:=h2;have ho:o+0*5+1<5:=by apply Classical.byContradiction;intro x;rw[List.getElem?_eq_none (by show 5<=_;omega)]at h3;cases h3
    rcases(by omega:o=0\/o=1\/o=2\/o=3)with rfl|rfl|rfl|rfl<;>simp at h3
   refine⟨_,cc,rfl,.inr ⟨B,o,cs,rfl,q1,?_,q3⟩⟩;unfold cellsAt at q2|-;rw[AW.get_put_ne _ _ (λe=>hne e.symm)]at q2;exact q2
section
variable {K:Nat->Prop} {V Wa:AW} {M k:Nat} {v:Ven} {sv rv:Value} {W0:AW} {N:Int} {l:List SeT}
theorem Both.box(h:Both K V Wa M k v sv rv W0 N l){c:Nat}{v':Ven}{sv' rv':Value}(h1:a7E sv')(h2:a7E rv')(hc:V.get c=some (.cells (a6c v' sv' rv')))(hk:¬K c)(hlo:W0.next<=c)(o:AObj):Both K (V.put c o) Wa M k v sv rv W0 N l:=
 {h with
  map:=h.map.keep (Nat.le_refl _) (λb _ hb=>AW.get_put_ne _ _ λe=>hk (by rw[e];exact hb)) (h.map.w0.put hlo o)
  row:=λV' g=>by
   refine a6r h1 h2 (h.row (V'.put c (.cells (a6c v' sv' rv'))) ⟨g.next,λb hb hn=>?_⟩);by_cases e:b=c
   ·subst e;rw[AW.get_put,hc]
   ·rw[AW.get_put_ne _ _ (λx=>e x.symm),g.get b hb hn,AW.get_put_ne _ _ (λx=>e x.symm)]}
end
end Go.Proofs.YtnigceddndemkaaGreatDoor.Ho
namespace Go.Proofs.YtnigceddndemkaaGreatDoor.Ho
open Go Go.Eng Go.RowKit
set_option maxRecDepth 100000
theorem a8K{W:AW}{n:Nat}{c:List Value}(h:DR Tryz.prog W (n+3) 130 c):∃s:Sec,∀pre post,a0P W (pre++(c++post)) pre.length s:=by
 obtain⟨c1,c2,rfl,h1,h2⟩:=(h.struct Tryz.underlying130).cons;obtain⟨c3,c4,rfl,h3,h4⟩:=h2.cons;obtain⟨c5,c6,rfl,h5,h6⟩:=h4.cons;obtain rfl:=h6.nil;obtain⟨s,rfl,_⟩:=h1.str Tryz.underlying9;obtain⟨rv,zs,rfl,hz,_⟩:=h3.ints Tryz.underlying69 Tryz.underlying3 (by kernel_rfl);obtain⟨q,rfl⟩:=h5.int Tryz.underlying3;refine⟨⟨s.data.toList,zs,q⟩,λpre post=>⟨?_,?_,rv,?_,hz⟩⟩
 ·rw[List.getElem?_append_right (by omega),XK];simp
 ·rw[List.getElem?_append_right (by omega),Nat.add_sub_cancel_left];rfl
 ·rw[List.getElem?_append_right (by omega),Nat.add_sub_cancel_left];rfl
theorem a9m{W:AW}{n:Nat}{c:List Value}(h:DR Tryz.prog W (n+5) 24 c):∃(v:Ven) (sv:Value),c=[.int .i64 v.sh,.int .i64 v.ttl,.int .i64 v.ses,sv]/\SecsC W sv v.secs:=by obtain⟨c1,c2,rfl,h1,h2⟩:=(h.struct Tryz.underlying24).cons;obtain⟨c3,c4,rfl,h3,h4⟩:=h2.cons;obtain⟨c5,c6,rfl,h5,h6⟩:=h4.cons;obtain⟨c7,c8,rfl,h7,h8⟩:=h6.cons;obtain rfl:=h8.nil;obtain⟨a,rfl⟩:=h1.int Tryz.underlying3;obtain⟨b,rfl⟩:=h3.int Tryz.underlying2;obtain⟨d,rfl⟩:=h5.int Tryz.underlying2;obtain⟨sv,l,rfl,r1,a',c',r2,r3,r4,r5⟩:=h7.row Tryz.underlying22 (at_:=a0P W) (λc _ hc=>a8K hc);exact⟨⟨a,b,d,l⟩,sv,rfl,r1,a',c',r2,.inl ⟨r3,r4⟩,r5⟩
theorem a8d{W:AW}{n:Nat}{c:List Value}(h:DR Tryz.prog W (n+2) 38 c):∃x:SeT,c=eZ x/\x.dl<=9223372036854775807:=by obtain⟨c1,r1,rfl,h1,h⟩:=(h.struct Tryz.underlying38).cons;obtain⟨c2,r2,rfl,h2,h⟩:=h.cons;obtain⟨c3,r3,rfl,h3,h⟩:=h.cons;obtain⟨c4,r4,rfl,h4,h⟩:=h.cons;obtain⟨c5,r5,rfl,h5,h⟩:=h.cons;obtain rfl:=h.nil;obtain⟨x1,rfl⟩:=h1.int Tryz.underlying3;obtain⟨x2,rfl⟩:=h2.int Tryz.underlying35;obtain⟨x3,rfl,-,hb⟩:=h3.intB Tryz.underlying2;obtain⟨x4,rfl⟩:=h4.int Tryz.underlying36;obtain⟨x5,rfl⟩:=h5.int Tryz.underlying36;exact⟨⟨x1,x2,x3,x4,x5⟩,rfl,hb⟩
theorem aAd{W:AW}{n:Nat}{c:List Value}(h:DR Tryz.prog W (n+3) 62 c):∃x:CaT,c=caC x/\x.s.dl<=9223372036854775807:=by obtain⟨c1,r1,rfl,h1,h⟩:=(h.struct Tryz.underlying62).cons;obtain⟨c2,r2,rfl,h2,h⟩:=h.cons;obtain⟨c3,r3,rfl,h3,h⟩:=h.cons;obtain⟨c4,r4,rfl,h4,h⟩:=h.cons;obtain rfl:=h.nil;obtain⟨x1,rfl⟩:=h1.int Tryz.underlying5;obtain⟨x2,rfl⟩:=h2.int Tryz.underlying3;obtain⟨x3,rfl⟩:=h3.int Tryz.underlying2;obtain⟨s,rfl,hb⟩:=a8d h4;exact⟨⟨x1,x2,x3,s⟩,by simp,hb⟩
theorem OM{α:Type}{W:AW}{z:Nat}{f:List Value->Nat->α->Prop}{p:α->Prop}{v:Value}{l:List α}(h:Row W z (λcs q x=>f cs q x/\p x) v l):Row W z f v l/\∀x∈l,p x:=by
 obtain⟨a,c,rfl,hr⟩:=h;rcases hr with rfl|⟨b,o,cs,h1,h2,h3,h4⟩
 ·exact⟨⟨a,c,rfl,.inl rfl⟩,λx hx=>by simp at hx⟩
 ·refine⟨⟨a,c,rfl,.inr ⟨b,o,cs,h1,h2,h3,λi hi=>(h4 i hi).1⟩⟩,λx hx=>?_⟩;obtain⟨i,hi,rfl⟩:=List.mem_iff_getElem.1 hx;exact(h4 i hi).2
theorem aB5:Tryz.prog.cellsOf 38=5:=by kernel_rfl
theorem aBO:Tryz.prog.cellsOf 62=8:=by kernel_rfl
theorem a7D(x:CaT)(pre post:List Value):a1v (pre++(caC x++post)) pre.length x:=by unfold a1v;rw[List.drop_left];rfl
theorem a3J{W:AW}{n:Nat}{c:List Value}(h:DR Tryz.prog W (n+3) 25 c):∃(v:Value) (l:List SeT),c=[v]/\SeL W v l/\a6E l:=by obtain⟨v,l,rfl,hr,-⟩:=h.row Tryz.underlying25 (at_:=λcs q x=>a6y cs q x/\x.dl<=9223372036854775807) (λc _ hc=>by obtain⟨x,rfl,hb⟩:=a8d hc;exact⟨x,λpre post=>⟨SE x pre post,hb⟩⟩);rw[aB5]at hr;obtain⟨h1,h2⟩:=OM hr;exact⟨v,l,rfl,h1,h2⟩
theorem a4Q{W:AW}{n:Nat}{c:List Value}(h:DR Tryz.prog W (n+4) 54 c):∃(v:Value) (l:List CaT),c=[v]/\CaL W v l/\∀x∈l,x.s.dl<=9223372036854775807:=by obtain⟨v,l,rfl,hr,-⟩:=h.row Tryz.underlying54 (at_:=λcs q x=>a1v cs q x/\x.s.dl<=9223372036854775807) (λc _ hc=>by obtain⟨x,rfl,hb⟩:=aAd hc;exact⟨x,λpre post=>⟨a7D x pre post,hb⟩⟩);rw[aBO]at hr;obtain⟨h1,h2⟩:=OM hr;exact⟨v,l,rfl,h1,h2⟩
section
variable {H:Type} {enc:TypeId×Value->H} {w:World} {σ:bQ} {W:AW} {v0:Value} {d:DataW H} {p:List MemPlace} {r:Reach} {b0:Nat}
theorem a3y{t:TypeId}{fs:Array Field}(ht:Tryz.prog.underlying t=some (.struct fs))(hv:Value.okWide Tryz.prog w r b0 t v0):∃cs,v0=.agg cs:=by unfold Value.okWide at hv;rw[ht]at hv;obtain⟨cs,h,_⟩:=hv;exact⟨cs,h⟩
theorem a5k{t e:TypeId}(ht:Tryz.prog.underlying t=some (.slice e))(hv:Value.okWide Tryz.prog w r b0 t v0):∃a n c,v0=.slice a n c:=by
 unfold Value.okWide at hv;rw[ht]at hv;simp only at hv;unfold Cell.okWide at hv;rw[ht]at hv;cases v0 with
 |slice a l c=>exact⟨a,l,c,rfl⟩
 |_=>simp only[Cell.ok,ht]at hv
theorem aAM:Z5 Tryz.prog 6 24=true:=by kernel_rfl
theorem aAR:Z5 Tryz.prog 6 25=true:=by kernel_rfl
theorem openVen(ho:Opened σ W w)(hv:Value.okWide Tryz.prog w r b0 24 v0)(h:DataW.Trod enc Tryz.prog w 0 (λ_=>true) true 24 v0 d p):
 ∃(σ2:bQ) (W2:AW) (v:Ven) (sv:Value),Opened σ2 W2 w/\Sub σ σ2/\Le W W2/\VR σ2 (sI v sv) v0/\SecsC W2 sv v.secs:=by
 obtain⟨cs,rfl⟩:=a3y Tryz.underlying24 hv;obtain⟨m,hm⟩:=h;obtain⟨σ2,W2,cs2,o2,s2,l2,r2,a2⟩:=BG aAM hm σ W ho;obtain⟨v,sv,rfl,hs⟩:=a9m a2;exact⟨σ2,W2,v,sv,o2,s2,l2,.agg' (a:=#[.int .i64 v.sh,.int .i64 v.ttl,.int .i64 v.ses,sv]) r2,hs⟩
theorem openSeats(ho:Opened σ W w)(hv:Value.okWide Tryz.prog w r b0 25 v0)(h:DataW.Trod enc Tryz.prog w 0 (λ_=>true) true 25 v0 d p):
 ∃(σ2:bQ) (W2:AW) (l:List SeT) (u:Value),Opened σ2 W2 w/\Sub σ σ2/\Le W W2/\VR σ2 u v0/\SeL W2 u l/\a6E l:=by
 obtain⟨a,n,c,rfl⟩:=a5k Tryz.underlying25 hv;obtain⟨m,hm⟩:=h;obtain⟨σ2,W2,cs2,o2,s2,l2,r2,a2⟩:=BG aAR hm σ W ho;obtain⟨u,l,rfl,hr,hb⟩:=a3J a2;exact⟨σ2,W2,l,u,o2,s2,l2,r2.2 0 _ _ rfl rfl,hr,hb⟩
end
theorem liftV{σ σ':bQ}(hs:Sub σ σ'){v v':Value}(h:VR σ v v'):VR σ' v v':=h.mono hs
theorem kidsT:Kids Tryz.prog (· <Tryz.prog.types.size):=kids_rows (by kernel_rfl) (by kernel_rfl)
theorem fullT:∀t e,t<Tryz.prog.types.size->Tryz.prog.underlying t=some (.slice e)->0<Tryz.prog.cellsOf e:=slices_full_of Tryz.prog (by kernel_rfl)
noncomputable def globW:List (Nat×List Value):=[(5,[])]
theorem openG{w:World}(hl:OP globW w.heap):Opened (σG globW) (WG globW 6) w:=⟨a7V rfl hl,a6k,5,_,rfl⟩
theorem open_calls(hok:aW Tryz.prog PlanTab.ng aL){w:World}{σ:bQ}{W:AW}(ho:Opened σ W w){i:Nat}{args args':List Value}(hr:LR σ args args')(h:aL (.func (.func i) #[] #[]) args W=some (.bool true,W)):
 Calls Tryz.prog i args'.toArray w λe w'=>e=.returned (.bool true)/\Quiet w w':=
 a4o hok ho.rel (λg hg=>by cases hg) ho.ro hr rfl h
end Go.Proofs.YtnigceddndemkaaGreatDoor.Ho
namespace Go.Proofs.YtnigceddndemkaaGreatDoor.Ho
open Go Go.Eng Go.Hp
set_option maxRecDepth 100000
theorem a0r(l:List SeT)(p:Nat->Bool):((bV l p).map (·.1)).Nodup:=by unfold bV;rw[List.map_map];refine List.Pairwise.map (R:=λa b:Nat=>a≠b) _ ?_ (List.nodup_range.filter _);intro a b h e;have:(a:Int)=(b:Int):=e;omega
theorem PQ{l:List SeT}{p:Nat->Bool}{now:Int}{d:List (Int×Int)}(h:nW (bV l p) now d):(d.map (·.1)).Nodup:=
 ((h.2.map (·.1)).nodup_iff).2 ((a0r l p).sublist (List.filter_sublist.map _))
theorem SS{l:List SeT}{p:Nat->Bool}{now:Int}{d:List (Int×Int)}(h:nW (bV l p) now d){x:Int×Int}:x∈d<->∃s,s<l.length/\p s=true/\(iK l s).st=1/\(iK l s).dl<=now/\x=FB l s:=by
 rw[h.2.mem_iff,List.mem_filter,kQ];constructor
 ·rintro⟨⟨j,h1,h2,h3,rfl⟩,h4⟩;exact⟨j,h1,h2,h3,of_decide_eq_true h4,rfl⟩
 ·rintro⟨j,h1,h2,h3,h4,rfl⟩;exact⟨⟨j,h1,h2,h3,rfl⟩,decide_eq_true h4⟩
theorem ZI(now:Int):∀(d:List (Int×Int)) (l:List SeT),(∀h∈d,∃s:Nat,h.1=(s:Int)/\s<l.length)->(d.map (·.1)).Nodup->∀j,iK (uJ l now d) j=if(j:Int)∈d.map (·.1)then yG (iK l j) now else iK l j
 |[],l,_,_,j=>by simp[uJ]
 |h::d,l,hd,hn,j=>by
  obtain⟨s,hs,hl⟩:=hd h (List.mem_cons_self ..);rw[List.map_cons,List.nodup_cons]at hn;have hlen:(KC now l h).length=l.length:=by unfold KC;rw[List.length_set]
  have ih:=ZI now d (KC now l h) (λx hx=>by rw[hlen];exact hd x (List.mem_cons_of_mem _ hx)) hn.2 j;show iK (uJ (KC now l h) now d) j=_;rw[ih];have e1:iK (KC now l h) j=if j=s then yG (iK l s) now else iK l j:=by unfold KC;rw[hs,Int.toNat_natCast,CX hl]
  rw[e1,List.map_cons];by_cases c:j=s
  ·subst c;have:¬((j:Int)∈d.map (·.1)):=by rw[<-hs];exact hn.1
   rw[if_neg this,if_pos rfl,if_pos (by rw[<-hs];exact List.mem_cons_self ..)]
  ·rw[if_neg c];by_cases c2:(j:Int)∈d.map (·.1)
   ·rw[if_pos c2,if_pos (List.mem_cons_of_mem _ c2)]
   ·rw[if_neg c2,if_neg];intro x;rcases List.mem_cons.1 x with x|x
    ·rw[hs]at x;omega
    ·exact c2 x
theorem a3z{x:SeT}{now:Int}(h1:x9 x=0)(h2:0<=now)(h3:x.st=1)(h4:x.dl<=now):yG x now=wU x:=by
 have t1:tmE x now=0:=by unfold tmE;rw[if_pos h1,if_neg (by omega)]
 have t2:inE x 1=0:=by unfold inE;rw[if_pos h1,if_pos h3]
 unfold yG;rw[if_pos];unfold KR;rw[if_neg (λc=>c t1),if_neg (λc=>c t2),if_pos h4]
section
variable {l:List SeT} {p:Nat->Bool} {now:Int} {d:List (Int×Int)}
theorem a0M(hd:nW (bV l p) now d):∀h∈d,∃s:Nat,h.1=(s:Int)/\s<l.length:=λh hh=>a4j hd hh
theorem a5h(hd:nW (bV l p) now d)(hok:∀x,x∈l->x9 x=0)(hn:0<=now){s:Nat}(hs:s<l.length)(hp:p s=true):((iK l s).st=1/\(iK l s).dl<=now/\iK (uJ l now d) s=wU (iK l s))\/(¬((iK l s).st=1/\(iK l s).dl<=now)/\iK (uJ l now d) s=iK l s):=by
 have he:=ZI now d l (a0M hd) (PQ hd) s;have hx:=hok _ (List.mem_of_getElem? (kV hs));by_cases c:(iK l s).st=1/\(iK l s).dl<=now
 ·have hm:(s:Int)∈d.map (·.1):=List.mem_map.2 ⟨FB l s,(SS hd).2 ⟨s,hs,hp,c.1,c.2,rfl⟩,rfl⟩;rw[if_pos hm,a3z hx hn c.1 c.2]at he;exact .inl ⟨c.1,c.2,he⟩
 ·have hm:¬((s:Int)∈d.map (·.1)):=λhm=>by
   obtain⟨x,hx1,hx2⟩:=List.mem_map.1 hm;obtain⟨s',-,-,h3,h4,rfl⟩:=(SS hd).1 hx1;have:(s':Int)=(s:Int):=hx2;have:s'=s:=by omega
   subst this;exact c ⟨h3,h4⟩
  rw[if_neg hm]at he;exact .inr ⟨c,he⟩
end
end Go.Proofs.YtnigceddndemkaaGreatDoor.Ho
namespace Go.Proofs.YtnigceddndemkaaGreatDoor.Ho
open Go Go.Eng Go.RowKit
set_option maxRecDepth 100000
abbrev atV(s now:Int):Value:=.agg #[.int .u8 s,.int .i64 now]
abbrev otV(s:Int)(q:Value)(now:Int):Value:=.agg #[.int .u8 s,q,.int .i64 now]
theorem aAX{W:AW}{n:Nat}{c:List Value}(h:DR Tryz.prog W (n+5) 65 c):∃(s t:Int) (q:Value) (l:List CaT),c=[.int .u8 s,q,.int .i64 t]/\0<=s/\s<=255/\CaL W q l:=by obtain⟨c1,r1,rfl,h1,h⟩:=(h.struct Tryz.underlying65).cons;obtain⟨c2,r2,rfl,h2,h⟩:=h.cons;obtain⟨c3,r3,rfl,h3,h⟩:=h.cons;obtain rfl:=h.nil;obtain⟨s,rfl,hb1,hb2⟩:=h1.intB Tryz.underlying5;obtain⟨q,l,rfl,hl,-⟩:=a4Q h2;obtain⟨t,rfl⟩:=h3.int Tryz.underlying2;exact⟨s,t,q,l,rfl,hb1,hb2,hl⟩
section
variable {H:Type} {enc:TypeId×Value->H} {w:World} {σ:bQ} {W:AW} {v0:Value} {d:DataW H} {p:List MemPlace} {r:Reach} {b0:Nat}
theorem aBf:Z5 Tryz.prog 6 65=true:=by kernel_rfl
theorem openOther(ho:Opened σ W w)(hv:Value.okWide Tryz.prog w r b0 65 v0)(h:DataW.Trod enc Tryz.prog w 0 (λ_=>true) true 65 v0 d p):
 ∃(σ2:bQ) (W2:AW) (s t:Int) (q:Value) (l:List CaT),Opened σ2 W2 w/\Sub σ σ2/\Le W W2/\VR σ2 (otV s q t) v0/\0<=s/\s<=255/\CaL W2 q l:=by
 obtain⟨cs,rfl⟩:=a3y Tryz.underlying65 hv;obtain⟨m,hm⟩:=h;obtain⟨σ2,W2,cs2,o2,s2,l2,r2,a2⟩:=BG aBf hm σ W ho;obtain⟨s,t,q,l,rfl,h1,h2,h3⟩:=aAX a2;exact⟨σ2,W2,s,t,q,l,o2,s2,l2,.agg' (a:=#[.int .u8 s,q,.int .i64 t]) r2,h1,h2,h3⟩
end
end Go.Proofs.YtnigceddndemkaaGreatDoor.Ho
namespace Go.Proofs.YtnigceddndemkaaGreatDoor.Ho
open Go Go.Eng Go.Hp
set_option maxRecDepth 100000
theorem MapP.aside{Y K:Nat->Prop}{V V':AW}{d:Md}{l:List SeT}{e:Nat->List (Int×Int)}(h:MapP Y K V d l e)(hn:V.next<=V'.next)(g:∀b,b<V.next->K b->V'.get b=V.get b)(hw:LeX Y d.W0 V'):MapP Y (λb=>K b/\b<V.next\/V'.next<=b) V' d l e:=
 {up:=λb hb=>.inr hb,mc:=(g _ h.ml h.kM).trans h.mc,ml:=by have:=h.ml;omega,kM:=.inl ⟨h.kM,h.ml⟩,sc:=(g _ h.sl h.sk).trans h.sc,sl:=by have:=h.sl;omega,sk:=.inl ⟨h.sk,h.sl⟩,ne:=h.ne,vk:=h.vk,kp:=h.kp,mn:=h.mn,ll:=h.ll
  col:=λi hi=>(h.col i hi).keep hn λh0=>g _ ((h.col i hi).lt h0) (h.tk i hi h0).1,tk:=λi hi h0=>⟨.inl ⟨(h.tk i hi h0).1,(h.col i hi).lt h0⟩,(h.tk i hi h0).2⟩,tt:=h.tt,ho:=λi hi=>(h.ho i hi).keep hn (λb hb hx=>g b hb (h.ak i hi b hx)) (λb _ hx=>hx)
  al:=λi hi b hb=>by have:=h.al i hi b hb;omega
  ak:=λi hi b hb=>.inl ⟨h.ak i hi b hb,h.al i hi b hb⟩,am:=h.am,at_:=h.at_,aa:=h.aa,es:=h.es,w0:=hw
  wk:=λb hb=>by
   rcases hb with hb|hb
   ·exact h.wk b hb.1
   ·have:=hw.next;omega
  secs:=h.secs}
theorem MapX.aside{Y K:Nat->Prop}{V V':AW}{M k many:Nat}{v:Ven}{W0:AW}{N:Int}{l:List SeT}(h:MapX Y K V M k many v W0 N l)(hn:V.next<=V'.next)(g:∀b,b<V.next->K b->V'.get b=V.get b)(hw:LeX Y W0 V'):MapX Y (λb=>K b/\b<V.next\/V'.next<=b) V' M k many v W0 N l:=by obtain⟨d,a,b,c,e,rfl,f,i,j,p⟩:=h;exact⟨d,a,b,c,e,rfl,f,i,j,p.aside hn g hw⟩
theorem MapX.lx{Y K:Nat->Prop}{V:AW}{M k many:Nat}{v:Ven}{W0:AW}{N:Int}{l:List SeT}(h:MapX Y K V M k many v W0 N l):LeX Y W0 V:=by obtain⟨d,a,b,c,e,rfl,f,i,j,p⟩:=h;exact p.w0
structure Mo where
 M:Nat
 k:Nat
 v:Ven
 Y:Nat->Prop
 W0:AW
abbrev Mo.at(m:Mo)(K:Nat->Prop)(V:AW)(many:Nat)(N:Int)(l:List SeT):Prop:=MapX m.Y K V m.M m.k many m.v m.W0 N l
def Duo(P:Nat->Prop)(V:AW)(a b:Mo)(many:Nat)(N:Int)(l l':List SeT):Prop:=
 ∃Ka Kb:Nat->Prop,a.at Ka V many N l/\b.at Kb V many N l'/\(∀c,c<V.next->Ka c->Kb c->False)/\(∀c,P c->c<V.next/\¬Ka c/\¬Kb c)/\(∀c,Ka c->c<b.W0.next->b.Y c)/\∀c,Kb c->c<a.W0.next->a.Y c
section
variable {P:Nat->Prop} {V V':AW} {a b:Mo} {many:Nat} {N N':Int} {l l' l2:List SeT}
theorem Duo.swap(h:Duo P V a b many N l l'):Duo P V b a many N l' l:=by obtain⟨Ka,Kb,h1,h2,h3,h4,h5,h6⟩:=h;exact⟨Kb,Ka,h2,h1,λc hc x y=>h3 c hc y x,λc hc=>⟨(h4 c hc).1,(h4 c hc).2.2,(h4 c hc).2.1⟩,h6,h5⟩
theorem Duo.fst(h:Duo P V a b many N l l'):∃K,a.at K V many N l:=by obtain⟨Ka,Kb,h1,-⟩:=h;exact⟨Ka,h1⟩
theorem Duo.sub{P':Nat->Prop}(h:Duo P V a b many N l l')(hp:∀c,P' c->P c):Duo P' V a b many N l l':=by obtain⟨Ka,Kb,h1,h2,h3,h4,h5⟩:=h;exact⟨Ka,Kb,h1,h2,h3,λc hc=>h4 c (hp c hc),h5⟩
theorem Duo.le(h:Duo P V a b many N l l')(hl:Le V V'):Duo (λc=>P c\/V.next<=c/\c<V'.next) V' a b many N l l':=by
 obtain⟨Ka,Kb,h1,h2,h3,h4,h5,h6⟩:=h;have n1:=h1.lx.next;have n2:=h2.lx.next;have n3:=hl.next;refine⟨_,_,h1.shift hl,h2.shift hl,λc hc x y=>?_,λc hc=>?_,λc hc hw=>?_,λc hc hw=>?_⟩
 ·rcases x with x|x
  ·rcases y with y|y
   ·exact h3 c x.2 x.1 y.1
   ·omega
  ·omega
 ·rcases hc with hc|hc
  ·obtain⟨q1,q2,q3⟩:=h4 c hc;exact⟨by omega,λx=>by rcases x with x|x;exact q2 x.1;omega,λx=>by rcases x with x|x;exact q3 x.1;omega⟩
  ·exact⟨hc.2,λx=>by rcases x with x|x<;>omega,λx=>by rcases x with x|x<;>omega⟩
 ·rcases hc with hc|hc
  ·exact h5 c hc.1 hw
  ·omega
 ·rcases hc with hc|hc
  ·exact h6 c hc.1 hw
  ·omega
theorem Duo.op(h:Duo P V a b many N l l'):∃K,a.at K V many N l/\∀{V' N' l2},N<=N'->Gr V V' K->a.at K V' many N' l2->Duo P V' a b many N' l2 l'/\(∀c,P c->V'.get c=V.get c)/\V.next<=V'.next:=by
 obtain⟨Ka,Kb,h1,h2,h3,h4,h5,h6⟩:=h;refine⟨Ka,h1,λ{V' N' l2} hN g m=>?_⟩;have n1:=h1.lx.next;have n2:=h2.lx.next;have n3:=g.next;refine⟨⟨Ka,_,m,(h2.aside n3 (λc hc hk=>g.get c hc λx=>h3 c hc x hk) ⟨Nat.le_trans n2 n3,λc hc hy=>?_⟩).grow hN,λc hc x y=>?_,λc hc=>?_,h5,λc hc hw=>?_⟩,λc hc=>g.get c (h4 c hc).1 (h4 c hc).2.1,n3⟩
 ·rw[g.get c (by omega) λx=>hy (h5 c x hc)];exact h2.lx.get c hc hy
 ·rcases y with y|y
  ·exact h3 c y.2 x y.1
  ·omega
 ·obtain⟨q1,q2,q3⟩:=h4 c hc;exact⟨by omega,q2,λx=>by rcases x with x|x;exact q3 x.1;omega⟩
 ·rcases hc with hc|hc
  ·exact h6 c hc.1 hw
  ·omega
theorem Duo.put(h:Duo P V a b many N l l')(n:Int)(y:SeT)(hN:N<1000000000000000):∃V',aL (.func (.func 30) #[] #[]) [mV a.M,.int .i64 n,pU y] V=some (.int .i64 (YY l n y),V')/\Duo P V' a b many (N+1) (NF l n y) l'/\(∀c,P c->V'.get c=V.get c)/\V.next<=V'.next:=by obtain⟨K,h1,h2⟩:=h.op;obtain⟨V',e1,e2,e3⟩:=a6d h1 n y hN;exact⟨V',e1,h2 (by omega) e3 e2⟩
theorem Duo.exp(h:Duo P V a b many N l l')(i now:Int)(hN:N<100000000000000):∃u V',∃d,aL (.func (.func 21) #[] #[]) [mV a.M,.int .i64 i,.int .i64 now] V=some (.tuple #[u,.int .i64 (lT i a.k now)],V')/\(lT i a.k now=0->nW (bV l (nP a.k i.toNat)) now d)/\Duo P V' a b many (N+5000) (uJ l now d) l'/\(∀c,P c->V'.get c=V.get c)/\V.next<=V'.next:=by obtain⟨K,h1,h2⟩:=h.op;obtain⟨u,V',d,e1,e2,-,-,e3,e4⟩:=a0n h1 i now hN;exact⟨u,V',d,e1,e3,h2 (by omega) e2 e4⟩
end
def uF(l:List SeT)(now:Int)(p:Nat->Bool):List SeT:=(List.range l.length).map λs=>if p s=true/\(iK l s).st=1/\(iK l s).dl<=now then wU (iK l s)else iK l s
theorem xS(l:List SeT)(now:Int)(p:Nat->Bool):(uF l now p).length=l.length:=by unfold uF;rw[List.length_map,List.length_range]
theorem TU(l:List SeT)(now:Int)(p:Nat->Bool){s:Nat}(hs:s<l.length):iK (uF l now p) s=if p s=true/\(iK l s).st=1/\(iK l s).dl<=now then wU (iK l s)else iK l s:=by apply yA;unfold uF;rw[List.getElem?_map,List.getElem?_range hs];rfl
theorem a1u{l m:List SeT}(hn:l.length=m.length)(h:∀s,s<l.length->iK l s=iK m s):l=m:=by apply List.ext_getElem hn;intro s h1 h2;have e1:=kV h1;have e2:=kV h2;rw[List.getElem?_eq_getElem h1]at e1;rw[List.getElem?_eq_getElem h2]at e2;injection e1 with e1;injection e2 with e2;rw[e1,e2,h s h1]
theorem PW(l:List SeT)(now:Int){p:Nat->Bool}(hp:∀s,p s=false):uF l now p=l:=by
 refine a1u (xS _ _ _) λs hs=>?_
 rw[xS]at hs;rw[TU _ _ _ hs,if_neg (by rw[hp s];simp)]
theorem QJ{l:List SeT}{now:Int}{p q:Nat->Bool}{d:List (Int×Int)}(hok:∀x,x∈uF l now p->x9 x=0)(hn:0<=now)(hd:nW (bV (uF l now p) q) now d):uJ (uF l now p) now d=uF l now λs=>p s||q s:=by
 refine a1u (by rw[DV,xS,xS]) λs hs=>?_
 rw[DV]at hs;have hs':=hs;rw[xS]at hs';have e1:=TU l now p hs';have e2:=TU l now (λs=>p s||q s) hs';cases hq:q s with
 |true=>
  simp only[hq,Bool.or_true,true_and]at e2;rcases a5h hd hok hn hs hq with⟨h1,h2,h3⟩|⟨h1,h3⟩
  ·rw[h3,e2];by_cases c:p s=true/\(iK l s).st=1/\(iK l s).dl<=now
   ·rw[if_pos c]at e1;rw[e1]at h1;have:(0:Int)=1:=h1;omega
   ·rw[if_neg c]at e1;rw[e1]at h1 h2|-;rw[if_pos ⟨h1,h2⟩]
  ·rw[h3,e2];by_cases c:p s=true/\(iK l s).st=1/\(iK l s).dl<=now
   ·rw[e1,if_pos c,if_pos c.2]
   ·rw[if_neg c]at e1;rw[e1]at h1|-;rw[if_neg h1]
 |false=>
  simp only[hq,Bool.or_false]at e2;have hnm:¬(s:Int)∈d.map (·.1):=λhm=>by
   obtain⟨x,hx,ex⟩:=List.mem_map.1 hm;obtain⟨s',-,q2,-,-,rfl⟩:=(SS hd).1 hx;have:(s':Int)=(s:Int):=ex;have:s'=s:=by omega
   rw[this,hq]at q2;cases q2
  rw[ZI now d (uF l now p) (a0M hd) (PQ hd) s,if_neg hnm,e1,e2]
theorem a9o{n:Int}(h0:0<=n)(h1:n<=255)(W:AW):QX Tryz.prog 5 3 (.int .u8 n) W=some (.int .i64 n,W):=by have:QX Tryz.prog 5 3 (.int .u8 n) W=some (.int .i64 (IntKind.i64.wrap n),W):=Eq.trans (by kernel_rfl) rfl;rw[this,rR (by omega) (by omega)]
theorem aAb(a b:Int)(W:AW):aG Tryz.prog .max #[2,2] 2 #[false,true] [.int .i64 a,.int .i64 b] W=some (.int .i64 (max a b),W):=by
 have e:aG Tryz.prog .max #[2,2] 2 #[false,true] [.int .i64 a,.int .i64 b] W=(lN Tryz.prog ([Value.int .i64 a,.int .i64 b].all aX) (builtin .max #[2,2] 2 #[false,true] #[.int .i64 a,.int .i64 b])).map λv=>(v,W):=by unfold aG;rfl
 rw[e];have e2:builtin .max #[2,2] 2 #[false,true] #[.int .i64 a,.int .i64 b]=(do pure (.value (<-Builtin.max_ #[2,2] 2 #[.int .i64 a,.int .i64 b]))):=rfl;rw[e2];refine IL ?_ rfl _ rfl;unfold Builtin.max_;simp only[List.foldlM_cons,List.foldlM_nil,dX,Builtin.max2,fC,Option.bind_some];congr 2;split<;>omega
theorem HoL.gr{W W':AW}{K:Nat->Prop}{lo:Nat}{u:Value}{l:List (Int×Int)}(h:NewL lo W u l)(g:Gr W W' K)(hk:∀b,lo<=b->b<W.next->¬K b):HoL W' u l:=(h.gr g hk).row
theorem a4b(W:AW):bE Tryz.prog 62 W=some (.pointer (some ⟨W.next,0,none⟩),W.add (.cells (caC ⟨0,0,0,J5⟩))):=Eq.trans (by kernel_rfl) rfl
theorem aBL(W:AW)(x:CaT):∃W1 W2,bE Tryz.prog 62 W=some (.pointer (some ⟨W.next,0,none⟩),W1)/\fZ 8 (.pointer (some ⟨W.next,0,none⟩)) (caV x) W1=some (undef,W2)/\Le W W2/\W2.next=W.next+1/\W2.get W.next=some (.cells (caC x)):=
 ⟨_,_,a4b W,xY (n:=8) (o:=0) (v:=caV x) (AW.get_add _ _) rfl (Nat.le_refl _) rfl,((Le.refl _).add _).put (Nat.le_refl _) _,rfl,AW.get_put _ _ _⟩
theorem aBI(W:AW):bE Tryz.prog 24 W=some (.pointer (some ⟨W.next,0,none⟩),W.add (.cells [.int .i64 0,.int .i64 0,.int .i64 0,.slice none 0 0])):=Eq.trans (by kernel_rfl) rfl
theorem aBE(W:AW)(v:Ven)(sv:Value)(h1:Eng.one sv=true)(k:Int):∃W1 W2 W3,bE Tryz.prog 24 W=some (.pointer (some ⟨W.next,0,none⟩),W1)/\fZ 4 (.pointer (some ⟨W.next,0,none⟩)) (sI v sv) W1=some (undef,W2)/\fZ 1 (.pointer (some ⟨W.next,0,none⟩)) (.int .i64 k) W2=some (undef,W3)/\Le W W2/\Le W W3/\W3.next=W.next+1/\W3.get W.next=some (.cells [.int .i64 k,.int .i64 v.ttl,.int .i64 v.ses,sv]):=by
 have g2:=λX:AW=>AW.get_put X W.next (.cells [.int .i64 v.sh,.int .i64 v.ttl,.int .i64 v.ses,sv])
 refine⟨_,(W.add (.cells [.int .i64 0,.int .i64 0,.int .i64 0,.slice none 0 0])).put W.next (.cells [.int .i64 v.sh,.int .i64 v.ttl,.int .i64 v.ses,sv]),_,aBI W,?_,ZP (b:=W.next) (o:=0) (g2 _) (by show 0<4;omega) rfl rfl,?_,?_,rfl,AW.get_put _ _ _⟩
 ·exact xY (n:=4) (o:=0) (v:=sI v sv) (AW.get_add _ _) rfl (Nat.le_refl _) (by show([.int .i64 v.sh,.int .i64 v.ttl,.int .i64 v.ses,sv]:List Value).all Eng.one=true;simp only[List.all_cons,List.all_nil,tJ,h1,Bool.and_self])
 ·exact((Le.refl _).add _).put (Nat.le_refl _) _
 ·exact(((Le.refl _).add _).put (Nat.le_refl _) _).put (Nat.le_refl _) _
theorem a6f{v w:Ven}(h:qZ v=false)(h':qZ w=false)(hs:w.secs=v.secs):j6 w=j6 v:=by unfold j6;rw[h,h',hs]
theorem a8Y{v w:Ven}(h:j6 w=j6 v)(hs:w.secs=v.secs)(sec:Int):IX w sec=IX v sec:=by unfold IX;rw[h,hs]
theorem a4h{v w:Ven}(hs:w.secs=v.secs)(ht:w.ttl=v.ttl)(he:w.ses=v.ses)(h1:1<=w.sh)(h2:w.sh<=16)(l:List SeT):(gJ v l=gJ w l/\j6 w=j6 v)\/gJ v l=7:=by
 cases hb:qZ v with
 |true=>
  right;have:(j6 v).2=7:=by unfold j6;rw[if_pos hb]
  unfold gJ jC;rw[this];rfl
 |false=>
  left;have hw:qZ w=false:=by
   have:qG w.sh 1 16=false:=by unfold qG;simp;omega
   unfold qZ at hb|-;rw[ht,he,this];simp only[Bool.or_eq_false_iff]at hb|-;exact⟨⟨trivial,hb.1.2⟩,hb.2⟩
  have e:=a6f hb hw hs;refine⟨?_,e⟩;unfold gJ jC;rw[e,hs]
theorem a3E{v:Ven}{l:List SeT}{sec:Int}{n:Nat}(ht:(n:Int)=bR v.secs)(hn:n<=4096):(LW v l sec).length<900000:=by
 unfold LW;split
 ·rename_i c;obtain⟨F,C,e1,e2,e3⟩:=KZ c;have h9:=X7 l (IX v sec).1.toNat C;rw[e2];simp;omega
 ·simp
section
variable {ρ:Type} {R:PlanTab.Fr} {K:LT->Option ρ} {G:ρ->Prop} {P:Nat->Prop} {U:AW} {a b:Mo} {many:Nat} {N:Int} {l:List SeT}
theorem a18{sv:Value}{bk:Nat}(h:Duo P U a b many N l l)(hsl:Secs U sv a.v.secs)(hv:a.v.secs.length<1000)(hw:b.v.secs=a.v.secs)(he:j6 b.v=j6 a.v)(ht:(many:Int)=bR a.v.secs)(hsv:∀U',Le U U'->aP (.pointer (some ⟨bk,3,none⟩)) U'=some (sv,U'))
 (e3:R 3=.pointer (some ⟨bk,0,none⟩))(e8:R 8=mV a.M)(e10:R 10=mV b.M)(e22:R 22=.int .i64 0)
 (hk:∀(R':PlanTab.Fr) (U':AW),R' 3=.pointer (some ⟨bk,0,none⟩)->R' 5=R 5->R' 8=mV a.M->R' 10=mV b.M->R' 12=R 12->Le U U'->Ok (K (X.exit 2,R',U')) G):
 Ok (aA (bY (fV aL) R U) K) G:=by
 obtain⟨Ka,ha⟩:=h.fst;obtain⟨Kb,hb⟩:=h.swap.fst;refine bF a.v.secs.length (by omega) (λj Q U'=>Le U U'/\Q 3=.pointer (some ⟨bk,0,none⟩)/\Q 5=R 5/\Q 8=mV a.M/\Q 10=mV b.M/\Q 12=R 12/\Q 22=.int .i64 (j:Int))
  (λr=>r.1=.exit 2/\Le U r.2.2/\r.2.1 3=.pointer (some ⟨bk,0,none⟩)/\r.2.1 5=R 5/\r.2.1 8=mV a.M/\r.2.1 10=mV b.M/\r.2.1 12=R 12) ⟨Le.refl _,e3,rfl,e8,e10,rfl,e22⟩ ?_ ?_ ?_
 ·rintro j Q U' hj ⟨u0,q3,q5,q8,q10,q12,q22⟩;unfold fV;have t1:((j:Int)<(a.v.secs.length:Int)):=by omega
  have t6:=λW'=>aQ (P:=Tryz.prog) (W:=W') (t:=3) (c:=false) (d:=true) (a:=(j:Int)) (b:=1) (by omega) (by omega)
  have e6:((j+1:Nat):Int)=(j:Int)+1:=by omega
  have fe:=a8Y he hw (j:Int);obtain⟨u1,U1,a1,a2,a3⟩:=VF (ha.le u0) hv ht (j:Int);obtain⟨u2,U2,b1,b2,b3⟩:=VF (hb.le (u0.trans a2)) (by rw[hw];exact hv) (by rw[hw];exact ht) (j:Int);have c1:=Q3 (ha.le ((u0.trans a2).trans b2)) hv ht (j:Int);have c2:=Q3 (hb.le ((u0.trans a2).trans b2)) (by rw[hw];exact hv) (by rw[hw];exact ht) (j:Int);have f1:LW b.v l (j:Int)=LW a.v l (j:Int):=by unfold LW;rw[fe]
  have f2:∀t,OI b.v l (j:Int) t=OI a.v l (j:Int) t:=λt=>by unfold OI;rw[fe]
  rw[fe]at b1 c2;rw[f1]at b3;rw[f2,f2,f2]at c2;have ff:=a7b (a3.mono b2) b3 (a3E ht ha.mn);rw[decide_eq_true (rfl:LW a.v l (j:Int)=LW a.v l (j:Int))]at ff;have d0:∀n:Int,(!decide (n=n))=false:=λn=>by simp
  simp only[SX,IJ,I8,q3,q8,q10,q22,Nat.zero_add,hsv U' u0,(hsl.mono u0).len BB,t1,decide_true,a1,b1,c1,c2,R6,TR,TH,SA,d0,ff,Bool.not_true,t6,aB];exact .inl ⟨trivial,(u0.trans a2).trans b2,q3,q5,q8,q10,q12,by rw[e6];rfl⟩
 ·rintro Q U' ⟨u0,q3,q5,q8,q10,q12,q22⟩;unfold fV;have t1:¬((a.v.secs.length:Int)<(a.v.secs.length:Int)):=by omega
  simp only[SX,q3,q22,Nat.zero_add,hsv U' u0,(hsl.mono u0).len BB,t1,decide_false,aB];exact⟨by simp,trivial,u0,q3,q5,q8,q10,q12⟩
 ·rintro⟨q,Q,U'⟩ ⟨rfl,u0,q3,q5,q8,q10,q12⟩;exact hk Q U' q3 q5 q8 q10 q12 u0
end
theorem a8M(x:SeT):vsame (pU x) (pU x)=true:=OL (by simp[vsL,XQ])
section
variable {R:PlanTab.Fr} {U W3:AW} {a b:Mo} {many:Nat} {N:Int} {l:List SeT} {sv q:Value} {xs:List CaT} {b3 b5:Nat}
theorem a3s(hd:Duo (λc=>c<W3.next) U a b many N l l)(hle:Le W3 U)(h3:∀U',Le W3 U'->aP (.pointer (some ⟨b3,3,none⟩)) U'=some (sv,U'))(hsl:Secs W3 sv a.v.secs)(h51:∀U',Le W3 U'->aP (.pointer (some ⟨b5,1,none⟩)) U'=some (q,U'))(hx:CaL W3 q xs)
 (hv:a.v.secs.length<1000)(hw:b.v.secs=a.v.secs)(he:j6 b.v=j6 a.v)(ht:(many:Int)=bR a.v.secs)(hN:N<100000000000000){i:Nat}(hi:i<xs.length)(hxs:xs.length<=20)
 (r3:R 3=.pointer (some ⟨b3,0,none⟩))(r5:R 5=.pointer (some ⟨b5,0,none⟩))(r8:R 8=mV a.M)(r10:R 10=mV b.M)(r12:R 12=.int .i64 (i:Int)):
 Ok (iT aL R U) λr=>r.1=.normal/\Le W3 r.2.2/\r.2.1 3=.pointer (some ⟨b3,0,none⟩)/\r.2.1 5=.pointer (some ⟨b5,0,none⟩)/\r.2.1 8=mV a.M/\r.2.1 10=mV b.M/\r.2.1 12=.int .i64 ((i+1:Nat):Int)/\∃l',Duo (λc=>c<W3.next) r.2.2 a b many (N+2) l' l':=by
 unfold iT;have t1:((i:Int)<(xs.length:Int)):=by omega
 have t6:=λW'=>aQ (P:=Tryz.prog) (W:=W') (t:=3) (c:=false) (d:=true) (a:=(i:Int)) (b:=1) (by omega) (by omega)
 have e6:((i+1:Nat):Int)=(i:Int)+1:=by omega
 obtain⟨p,i1,i2⟩:=CaL.get hx hi;generalize xs[i]=x at *;obtain⟨U1,U2,a1,a2,a3,a4,a5⟩:=aBL U x;have d2:=hd.le a3;obtain⟨Ka,ha⟩:=d2.fst;have g1:=a1o ha x.at_;obtain⟨U3,U4,b1,b2,b3',b4,b5'⟩:=a6i U2 (a1G l x.at_);have d4:=d2.le b3';obtain⟨Kb,hb⟩:=d4.swap.fst;have g2:=a1o hb x.at_;obtain⟨U5,U6,c1,c2,c3,c4,c5⟩:=a6i U4 (a1G l x.at_);have d6:=d4.le c3;obtain⟨U7,e1,d7,k7,n7⟩:=d6.put x.at_ x.s (by omega);obtain⟨U8,f1,d8',k8,n8⟩:=d7.swap.put x.at_ x.s (by omega);have d8:=d8'.swap;have x2:=a5;have x4:=(b3'.get U.next (by omega)).trans x2;have x6:=(c3.get U.next (by omega)).trans x4;have x7:=(k7 U.next (.inl (.inl (.inr ⟨by omega,by omega⟩)))).trans x6;have x8:=(k8 U.next (.inl (.inl (.inr ⟨by omega,by omega⟩)))).trans x7;have y6:=(c3.get U2.next (by omega)).trans b5';have y8:=(k8 U2.next (.inl (.inr ⟨by omega,by omega⟩))).trans ((k7 U2.next (.inl (.inr ⟨by omega,by omega⟩))).trans y6);have z8:=(k8 U4.next (.inr ⟨by omega,by omega⟩)).trans ((k7 U4.next (.inr ⟨by omega,by omega⟩)).trans c5);have l6:Le W3 U6:=hle.trans ((a3.trans b3').trans c3);have l8:Le W3 U8:=⟨by have:=l6.next;omega,λc hc=>(k8 c (.inl (.inl (.inl hc)))).trans ((k7 c (.inl (.inl (.inl hc)))).trans (l6.get c hc))⟩;obtain⟨-,p2,-,-⟩:=a2d x2;obtain⟨-,p4,-,-⟩:=a2d x4;obtain⟨-,p6,-,p6'⟩:=a2d x6;obtain⟨-,p7,-,p7'⟩:=a2d x7;obtain⟨l',hl'⟩:∃l',l'=NF l x.at_ x.s:=⟨_,rfl⟩;rw[<-hl']at d8;obtain⟨Ka8,ma⟩:=d8.fst;obtain⟨Kb8,mb⟩:=d8.swap.fst;have hmn:=ma.mn;have hlen:=ma.len;obtain⟨s1,U9,q1,q2,q3⟩:=EU ma;obtain⟨s2,U10,q4,q5,q6⟩:=EU (mb.le q2);have sm:=a00 (q3.mono q5) q6 (by omega);rw[decide_eq_true (rfl:l'=l')]at sm;have l10:Le U8 U10:=q2.trans q5;have x10:=(l10.get U.next (by omega)).trans x8;obtain⟨-,-,p10,-⟩:=a2d x10;obtain⟨o1,U11,o1l,v1,v2,v3,v4,v5⟩:=OV (ma.le l10) x.now;have x11:=(v2.get U.next (by have:=l10.next;omega)).trans x10;obtain⟨-,-,p11,-⟩:=a2d x11;obtain⟨o2,U12,o2l,w1,w2,w3,w4,w5⟩:=OV (mb.le (l10.trans v2)) x.now;have heq:o2l=o1l:=by
  by_cases c:x.now<0
  ·rw[w4 c,v4 c]
  ·exact a4q (w5 (by omega)) (v5 (by omega))
 subst heq;have hol:o2l.length<=10000:=by
  by_cases c:x.now<0
  ·rw[w4 c];simp
  ·have h1:=(w5 (by omega)).2.length_eq;have h2:=List.length_filter_le (fG x.now) (bV l' λ_=>true);have h3:=qB l' λ_=>true
   omega
 have ff:=a1Y (v3.row.mono w2) w3.row hol;rw[decide_eq_true (rfl:o2l=o2l)]at ff;have l12:Le U8 U12:=(l10.trans v2).trans w2;have d12:=(d8.le l12).sub (P':=λc=>c<W3.next) λc hc=>.inl (.inl (.inl (.inl hc)))
 have w12:Le W3 U12:=l8.trans l12;have dn:∀n:Int,(!decide (n=n))=false:=λn=>by simp
 have ds:(!decide (a1G l x.at_=a1G l x.at_))=false:=by simp
 simp only[SX,IJ,I8,r3,r5,r8,r10,r12,Nat.zero_add,h51 U hle,hx.len IW,(Row.mono hx hle).len IW,t1,decide_true,i1,i2 U hle,a1,a2,p2,g1,b1,b2,p4,g2,c1,c2,p6,p6',e1,p7,p7',iW,a8M,zJ,Bool.and_self,Bool.and_true,f1,dn,cB y8,cB z8,a7M,ds,q1,q4,sm,Bool.not_true,p10,v1,p11,w1,ff];refine a18 (bk:=b3) d12 (hsl.mono w12) hv hw he ht (λU' hU'=>h3 U' (w12.trans hU')) ?_ ?_ ?_ ?_ λR' U' s3 s5 s8 s10 s12 u0=>?_
 ·exact r3
 ·exact r8
 ·exact r10
 ·rfl
 ·have s12':R' 12=.int .i64 (i:Int):=s12.trans r12;simp only[SX,s12',t6,aB];exact⟨trivial,w12.trans u0,s3,s5.trans r5,s8,s10,by rw[e6];rfl,l',by
   have:=(d12.le u0).sub (P':=λc=>c<W3.next) λc hc=>.inl hc
   rw[show N+2=N+1+1 by omega];exact this⟩
end
theorem vK{l:List SeT}{now:Int}{p q:Nat->Bool}(h:∀s,p s=q s):uF l now p=uF l now q:=by rw[show p=q from funext h]
section
variable {ρ:Type} {R:PlanTab.Fr} {K:LT->Option ρ} {G:ρ->Prop} {U W3:AW} {a b:Mo} {many:Nat} {N now:Int} {l l':List SeT}
theorem XH{P:Nat->Prop}{V V':AW}(hle:Le W3 V)(hp:∀c,c<W3.next->V'.get c=V.get c)(hn:V.next<=V'.next):Le W3 V':=⟨Nat.le_trans hle.next hn,λc hc=>(hp c hc).trans (hle.get c hc)⟩
theorem a2a(hd:Duo (λc=>c<W3.next) U a b many N l l')(hle:Le W3 U)(hn:0<=now)(hN:N<1000000000)
 (e8:R 8=mV a.M)(e10:R 10=mV b.M)(e35:R 35=.int .i64 now)(e36:R 36=.int .i64 0)
 (hk:∀(R':PlanTab.Fr) (U':AW),R' 8=mV a.M->R' 10=mV b.M->R' 35=.int .i64 now->Le W3 U'->Duo (λc=>c<W3.next) U' a b many (N+80000) (uF l now λ_=>true) l'->Ok (K (X.exit 4,R',U')) G):
 Ok (aA (bY (iU aL) R U) K) G:=by
 obtain⟨Ka,ha⟩:=hd.fst;have hkp:=ha.kp;refine bF a.k (by omega) (λi Q U'=>Le W3 U'/\Q 8=mV a.M/\Q 10=mV b.M/\Q 35=.int .i64 now/\Q 36=.int .i64 (i:Int)/\Duo (λc=>c<W3.next) U' a b many (N+5000*(i:Int)) (uF l now λs=>decide (s % a.k<i)) l')
  (λr=>r.1=.exit 4/\Le W3 r.2.2/\r.2.1 8=mV a.M/\r.2.1 10=mV b.M/\r.2.1 35=.int .i64 now/\Duo (λc=>c<W3.next) r.2.2 a b many (N+80000) (uF l now λ_=>true) l') ⟨hle,e8,e10,e35,e36,?_⟩ ?_ ?_ ?_
 ·rw[PW l now λs=>by simp];simpa using hd
 ·rintro i Q U' hi ⟨u0,q8,q10,q35,q36,hD⟩;unfold iU;have t1:((i:Int)<(a.k:Int)):=by omega
  have t6:=λW'=>aQ (P:=Tryz.prog) (W:=W') (t:=3) (c:=false) (d:=true) (a:=(i:Int)) (b:=1) (by omega) (by omega)
  have e6:((i+1:Nat):Int)=(i:Int)+1:=by omega
  obtain⟨K1,h1⟩:=hD.fst;obtain⟨u,U1,d,m1,m2,m3,m4,m5⟩:=hD.exp (i:Int) now (by omega);have hse:lT (i:Int) a.k now=0:=by unfold lT;rw[if_neg (by omega),if_neg (by omega)]
  have hx:=QJ (λx hx=>h1.ok hx) hn (m2 hse);rw[hse]at m1;have d0:(!decide ((0:Int)=0))=false:=rfl;simp only[SX,q8,q35,q36,sH h1,t1,decide_true,m1,d0,t6,aB];refine .inl ⟨trivial,XH (P:=λ_=>False) u0 m4 m5,q8,q10,q35,by rw[e6];rfl,?_⟩;rw[hx,vK (q:=λs=>decide (s % a.k<i+1)) (λs=>by rw[Bool.eq_iff_iff];simp[nP];omega)]at m3;rw[show N+5000*((i+1:Nat):Int)=N+5000*(i:Int)+5000 by omega];exact m3
 ·rintro Q U' ⟨u0,q8,q10,q35,q36,hD⟩;unfold iU;have t1:¬((a.k:Int)<(a.k:Int)):=by omega
  obtain⟨K1,h1⟩:=hD.fst;simp only[SX,q8,q36,sH h1,t1,decide_false,aB];refine⟨by simp,trivial,u0,q8,q10,q35,?_⟩;rw[vK (q:=λ_=>true) (λs=>decide_eq_true (Nat.mod_lt s (by omega)))]at hD;obtain⟨A,B,x1,x2,x3⟩:=hD;exact⟨A,B,x1.grow (by omega),x2.grow (by omega),x3⟩
 ·rintro⟨q,Q,U'⟩ ⟨rfl,u0,q8,q10,q35,hD⟩;exact hk Q U' q8 q10 q35 u0 hD
theorem a2b(hd:Duo (λc=>c<W3.next) U a b many N l l')(hle:Le W3 U)(hn:0<=now)(hN:N<1000000000)
 (e8:R 8=mV a.M)(e10:R 10=mV b.M)(e35:R 35=.int .i64 now)(e37:R 37=.int .i64 ((b.k:Int)-1))
 (hk:∀(R':PlanTab.Fr) (U':AW),R' 8=mV a.M->R' 10=mV b.M->Le W3 U'->Duo (λc=>c<W3.next) U' a b many (N+80000) l (uF l' now λ_=>true)->Ok (K (X.exit 6,R',U')) G):
 Ok (aA (bY (iO aL) R U) K) G:=by
 obtain⟨Kb,hb⟩:=hd.swap.fst;have hkp:=hb.kp;refine bF b.k (by omega) (λi Q U'=>Le W3 U'/\Q 8=mV a.M/\Q 10=mV b.M/\Q 35=.int .i64 now/\Q 37=.int .i64 ((b.k:Int)-1-(i:Int))/\Duo (λc=>c<W3.next) U' b a many (N+5000*(i:Int)) (uF l' now λs=>decide (b.k<=s % b.k+i)) l)
  (λr=>r.1=.exit 6/\Le W3 r.2.2/\r.2.1 8=mV a.M/\r.2.1 10=mV b.M/\Duo (λc=>c<W3.next) r.2.2 a b many (N+80000) l (uF l' now λ_=>true)) ⟨hle,e8,e10,e35,by rw[e37];congr 1;omega,?_⟩ ?_ ?_ ?_
 ·rw[PW l' now λs=>by have:=Nat.mod_lt s (show 0<b.k by omega);rw[decide_eq_false];omega];simpa using hd.swap
 ·rintro i Q U' hi ⟨u0,q8,q10,q35,q37,hD⟩;unfold iO;obtain⟨j,hj⟩:∃j:Nat,j+1+i=b.k:=⟨b.k-1-i,by omega⟩;have ej:(b.k:Int)-1-(i:Int)=(j:Int):=by omega
  rw[ej]at q37;have t1:((0:Int)<=(j:Int)):=by omega
  have t6:=λW'=>uL (P:=Tryz.prog) (W:=W') (t:=3) (c:=false) (d:=true) (a:=(j:Int)) (b:=1) (by omega) (by omega)
  have e6:(b.k:Int)-1-((i+1:Nat):Int)=(j:Int)-1:=by omega
  obtain⟨K1,h1⟩:=hD.fst;obtain⟨u,U1,d,m1,m2,m3,m4,m5⟩:=hD.exp (j:Int) now (by omega);have hse:lT (j:Int) b.k now=0:=by unfold lT;rw[if_neg (by omega),if_neg (by omega)]
  have hx:=QJ (λx hx=>h1.ok hx) hn (m2 hse);rw[hse]at m1;have d0:(!decide ((0:Int)=0))=false:=rfl;simp only[SX,q10,q35,q37,t1,decide_true,m1,d0,t6,aB];refine .inl ⟨trivial,XH (P:=λ_=>False) u0 m4 m5,q8,q10,q35,by rw[e6];rfl,?_⟩;rw[hx,vK (q:=λs=>decide (b.k<=s % b.k+(i+1))) (λs=>by have:=Nat.mod_lt s (show 0<b.k by omega);rw[Bool.eq_iff_iff];simp[nP];omega)]at m3;rw[show N+5000*((i+1:Nat):Int)=N+5000*(i:Int)+5000 by omega];exact m3
 ·rintro Q U' ⟨u0,q8,q10,q35,q37,hD⟩;unfold iO;rw[show(b.k:Int)-1-(b.k:Int)= -1 by omega]at q37;have t1:¬((0:Int)<= -1):=by omega
  simp only[SX,q37,t1,decide_false,aB];refine⟨by simp,trivial,u0,q8,q10,?_⟩;rw[vK (q:=λ_=>true) (λs=>decide_eq_true (by omega))]at hD;obtain⟨A,B,x1,x2,x3⟩:=hD.swap;exact⟨A,B,x1.grow (by omega),x2.grow (by omega),x3⟩
 ·rintro⟨q,Q,U'⟩ ⟨rfl,u0,q8,q10,hD⟩;exact hk Q U' q8 q10 u0 hD
end
theorem shardsAny_om{W:AW}{v:Ven}{sv rv q:Value}{l:List SeT}{xs:List CaT}{s t:Int}(hs:SecsC W sv v.secs)(hr:SeL W rv l)(h0:0<=s)(h1:s<=255)(hx:CaL W q xs):aL (.func (.func 6) #[] #[]) [sI v sv,rv,otV s q t] W=some (.bool true,W):=by
 refine aN rfl ?_ AC;unfold wP;obtain⟨W1,k1,k2,k3,k4⟩:=TI v sv W;have oB:dK (otV s q t) W1=some (.pointer (some ⟨W1.next,0,none⟩),W1.add (.cells [.int .u8 s,q,.int .i64 t])):=fU _;have l2:Le W1 (W1.add (.cells [.int .u8 s,q,.int .i64 t])):=(Le.refl _).add _;have n2:(W1.add (.cells [.int .u8 s,q,.int .i64 t])).next=W1.next+1:=AW.add_next _ _;have g2:(W1.add (.cells [.int .u8 s,q,.int .i64 t])).get W1.next=some (.cells [.int .u8 s,q,.int .i64 t]):=AW.get_add _ _;simp only[SX,k1,oB];generalize W1.add (.cells [.int .u8 s,q,.int .i64 t])=W2 at *;have lW:=k2.trans l2;have gv:=(l2.get _ (by omega)).trans k4;have hs2:=hs.mono lW;have hr2:=hr.mono lW;have hx2:CaL W2 q xs:=Row.mono hx lW;obtain⟨c,hf,hsm⟩:=a8m (hs2.1) hr2;cases c with
 |true=>simp only[SX,IJ,I8,mM gv,hf,oJ,aB];exact⟨trivial,lW⟩
 |false=>
 obtain⟨sm1,sm2,sm3⟩:=hsm rfl;have q1:∀U,Le W2 U->aP (.pointer (some ⟨W1.next,1,none⟩)) U=some (q,U):=λU hU=>jE (bU ((hU.get _ (by omega)).trans g2)) rfl
 by_cases c20:20<(xs.length:Int)
 ·have d20:=decide_eq_true c20;simp only[SX,IJ,I8,mM gv,hf,Nat.zero_add,q1 W2 (Le.refl _),hx2.len IW,d20,oJ,aB];exact⟨trivial,lW⟩
 have d20:=decide_eq_false c20;have h0s:aP (.pointer (some ⟨W1.next,0,none⟩)) W2=some (.int .u8 s,W2):=jE (bU g2) rfl;obtain⟨sn,rfl⟩:∃n:Nat,s=(n:Int):=⟨s.toNat,by omega⟩;have cv:=λW'=>a9o (n:=(sn:Int)) (by omega) (by omega) W'
 have h16:=Nat.mod_lt sn (show 0<16 by omega);have r16:∀t c d W',aH Tryz.prog .rem t c d (.int .i64 (sn:Int)) (.int .i64 16) W'=some (.int .i64 ((sn % 16:Nat):Int),W'):=λt c d W'=>YX sn 16 (by omega) t c d W'
 have tad:=λW'=>aQ (P:=Tryz.prog) (W:=W') (t:=3) (c:=true) (d:=false) (a:=1) (b:=((sn % 16:Nat):Int)) (by omega) (by omega)
 have hone:Eng.one sv=true:=by obtain⟨-,a,c,rfl,-⟩:=hs;rfl
 obtain⟨A1,A2,A3,a1,a2,a3,a4,a5,a6,a7⟩:=aBE W2 v sv hone (1+((sn % 16:Nat):Int));obtain⟨w,hw⟩:∃w:Ven,w=⟨1+((sn % 16:Nat):Int),v.ttl,v.ses,v.secs⟩:=⟨_,rfl⟩;have w1:w.secs=v.secs:=by rw[hw]
 have w2:w.sh=1+((sn % 16:Nat):Int):=by rw[hw]
 have hE:=a4h (v:=v) (w:=w) w1 (by rw[hw]) (by rw[hw]) (by omega) (by omega) l;have h2s:aP (.pointer (some ⟨W1.next,0,none⟩)) A2=some (.int .u8 (sn:Int),A2):=jE (bU ((a4.get _ (by omega)).trans g2)) rfl;have gv3:=(a5.get _ (by omega)).trans gv;have hs3:=hs2.mono a5;have hr3:=hr2.mono a5;have l3:=lW.trans a5;have gw:A3.get W2.next=some (.cells [.int .i64 w.sh,.int .i64 w.ttl,.int .i64 w.ses,sv]):=by rw[hw];exact a7
 have hsw:SecsC A3 sv w.secs:=by rw[w1];exact hs3
 obtain⟨p1,p2⟩:=X0 hs3 (by omega) hr3 (by omega);have z0:(!decide ((0:Int)=0))=false:=rfl;by_cases ce:gJ v l=0;case neg=>
  have m1:=p1 ce;have dv:(!decide (gJ v l=0))=true:=by rw[decide_eq_false ce];rfl
  obtain⟨b1,b2⟩:=X0 (v:=w) hsw (by rw[w1];omega) hr3 (by omega);have z7:decide ((7:Int)=7)=true:=rfl;have y7:(!decide ((7:Int)=0))=true:=rfl;by_cases cw:gJ w l=0
  ·have e7:gJ v l=7:=by
    rcases hE with⟨e,-⟩|e
    ·exact absurd (e.trans cw) ce
    ·exact e
   rw[e7]at m1;obtain⟨Mb,V1,W0b,kb,n1,n2,n3,-⟩:=b2 cw;have y0:decide ((7:Int)=0)=false:=rfl;simp only[SX,IJ,I8,mM gv,hf,Nat.zero_add,q1 W2 (Le.refl _),hx2.len IW,d20,a1,a2,h2s,cv,r16,tad,a3,mM gv3,m1,mM gw,n1,y7,y0,z7,oJ,aB];exact⟨trivial,l3.trans n3⟩
  ·have n1:=b1 cw;rcases hE with⟨e,-⟩|e7
   ·rw[<-e]at n1;have de:decide (gJ v l=gJ v l)=true:=decide_eq_true rfl;simp only[SX,IJ,I8,mM gv,hf,Nat.zero_add,q1 W2 (Le.refl _),hx2.len IW,d20,a1,a2,h2s,cv,r16,tad,a3,mM gv3,m1,mM gw,n1,dv,de,oJ,aB];exact⟨trivial,l3⟩
   ·rw[e7]at m1;cases hc:decide ((7:Int)=gJ w l)<;>
     (simp only[SX,IJ,I8,mM gv,hf,Nat.zero_add,q1 W2 (Le.refl _),hx2.len IW,d20,a1,a2,h2s,cv,r16,tad,a3,mM gv3,m1,mM gw,n1,y7,hc,z7,oJ,aB]
      exact⟨trivial,l3⟩)
 obtain⟨cw,hve⟩:gJ w l=0/\j6 w=j6 v:=by
  rcases hE with⟨e,e'⟩|e
  ·exact⟨e▸ce,e'⟩
  ·rw[ce]at e;cases e
 obtain⟨-,htot,-,hl4,-⟩:=WI ce;obtain⟨Ma,V0,W0a,ka,m1,m2,m3,m4,m5⟩:=p2 ce;obtain⟨-,b2⟩:=Q9 (v:=w) (hsw.mono m3) (by rw[w1];omega) (hr3.mono m3) (by omega);obtain⟨Mb,V1,W0b,kb,n1,n2,n3,n4,n5,n6⟩:=b2 cw;have u0:=(MapS.w0 m5).next;have u1:=n2.next;have u2:=n5.next;have u3:=m2.next;obtain⟨ma,hma⟩:∃ma:Mo,ma=⟨Ma,ka,v,λ_=>False,W0a⟩:=⟨_,rfl⟩;obtain⟨mb,hmb⟩:∃mb:Mo,mb=⟨Mb,kb,w,λc=>c<V0.next,W0b⟩:=⟨_,rfl⟩;have hD:Duo (λc=>c<A3.next) V1 ma mb l.length 10001 l l:=by
  subst hma hmb;refine⟨_,_,m5.shift n3,n6,λc hc x y=>?_,λc hc=>⟨by omega,λx=>?_,λx=>?_⟩,λc x hc=>?_,λc x hc=>?_⟩
  ·rcases x with x|x<;>omega
  ·rcases x with x|x<;>omega
  ·omega
  ·rcases x with x|x
   ·exact x.2
   ·have:c<W0b.next:=hc;omega
  ·have:c<W0a.next:=hc;omega
 have hvm:ma.v=v:=by rw[hma]
 have hwm:mb.v=w:=by rw[hmb]
 have eM:ma.M=Ma:=by rw[hma]
 have eB:mb.M=Mb:=by rw[hmb]
 have gw0:=(m3.get _ (by omega)).trans gw;have lV:Le A3 V1:=m3.trans n3;obtain⟨now,hnow⟩:∃now,now=max t 0:=⟨_,rfl⟩;have mx:=λW'=>aAb t 0 W'
 rw[<-hnow]at mx;have q2:∀U,Le A3 U->aP (.pointer (some ⟨W1.next,2,none⟩)) U=some (.int .i64 t,U):=λU hU=>jE (bU (((a5.trans hU).get _ (by omega)).trans g2)) rfl
 have q3':∀U,Le A3 U->aP (.pointer (some ⟨W.next,3,none⟩)) U=some (sv,U):=λU hU=>jE (bU ((hU.get _ (by omega)).trans gv3)) rfl
 simp only[SX,IJ,I8,mM gv,hf,Nat.zero_add,q1 W2 (Le.refl _),hx2.len IW,d20,a1,a2,h2s,cv,r16,tad,a3,mM gv3,m1,mM gw0,n1,z0];refine bF xs.length (by omega) (λi Q U=>Le A3 U/\Q 3=.pointer (some ⟨W.next,0,none⟩)/\Q 5=.pointer (some ⟨W1.next,0,none⟩)/\Q 8=mV ma.M/\Q 10=mV mb.M/\Q 12=.int .i64 (i:Int)/\∃m,Duo (λc=>c<A3.next) U ma mb l.length (10001+2*(i:Int)) m m)
  (λr=>r.1=.exit 0/\Le A3 r.2.2/\r.2.1 5=.pointer (some ⟨W1.next,0,none⟩)/\r.2.1 8=mV ma.M/\r.2.1 10=mV mb.M/\∃m,Duo (λc=>c<A3.next) r.2.2 ma mb l.length (10001+2*(xs.length:Int)) m m)
  ⟨lV,rfl,rfl,by rw[eM];rfl,by rw[eB];rfl,rfl,l,hD⟩ ?_ ?_ ?_
 ·rintro i Q U hi ⟨x0,x3,x5,x8,x10,x12,m,hm⟩;have st:=a3s (W3:=A3) (sv:=sv) (q:=q) (b3:=W.next) (b5:=W1.next) hm x0 q3' (by rw[hvm];exact hs3.1) (λU' hU'=>q1 U' (a5.trans hU')) (Row.mono hx2 a5) (by rw[hvm];omega) (by rw[hvm,hwm,w1]) (by rw[hvm,hwm];exact hve) (by rw[hvm];exact htot) (by omega) hi (by omega) x3 x5 x8 x10 x12;obtain⟨r,hr',y0,y1,y3,y5,y8,y10,y12,m',hm'⟩:=st;refine⟨r,hr',.inl ⟨y0,y1,y3,y5,y8,y10,y12,m',?_⟩⟩;rw[show(10001:Int)+2*((i+1:Nat):Int)=10001+2*(i:Int)+2 by omega];exact hm'
 ·rintro Q U ⟨x0,x3,x5,x8,x10,x12,m,hm⟩;unfold iT;have t1:¬((xs.length:Int)<(xs.length:Int)):=by omega
  simp only[SX,x5,x12,Nat.zero_add,q1 U (a5.trans x0),hx2.len IW,t1,decide_false,aB];exact⟨by simp,trivial,x0,x5,x8,x10,m,hm⟩
 ·rintro⟨e,Q,U⟩ ⟨rfl,x0,x5,x8,x10,m,hm⟩;simp only at x0 x5 x8 x10 hm;obtain⟨K1,f1⟩:=hm.fst;obtain⟨K2,f2⟩:=hm.swap.fst;have kp1:=f1.kp;have kp2:=f2.kp;have d1:decide ((16:Int)<(ma.k:Int))=false:=decide_eq_false (by omega);have d2:decide ((16:Int)<(mb.k:Int))=false:=decide_eq_false (by omega);simp only[SX,IJ,I8,x5,x8,x10,Nat.zero_add,q2 U x0,mx,sH f1,sH f2,d1,d2];refine a2a (W3:=A3) (now:=now) hm x0 (by omega) (by omega) ?_ ?_ ?_ ?_ λR' U' r8 r10 r35 v0 v1=>?_
  ·exact x8
  ·exact x10
  ·rfl
  ·rfl
  obtain⟨K3,f3⟩:=v1.swap.fst;have tsb:=λW'=>uL (P:=Tryz.prog) (W:=W') (t:=3) (c:=false) (d:=true) (a:=(mb.k:Int)) (b:=1) (by omega) (by omega)
  simp only[SX,r10,sH f3,tsb];refine a2b (W3:=A3) (now:=now) v1 v0 (by omega) (by omega) ?_ ?_ ?_ ?_ λR'' U'' s8 s10 y0 y1=>?_
  ·exact r8
  ·exact r10
  ·exact r35
  ·rfl
  obtain⟨K4,f4⟩:=y1.fst;obtain⟨K5,f5⟩:=y1.swap.fst;have hmn:=f4.mn;have hlen:=f4.len;obtain⟨o1,X1,g1,g2',g3⟩:=EU f4;obtain⟨o2,X2,g4,g5,g6⟩:=EU (f5.le g2');have sm:=a00 (g3.mono g5) g6 (by omega);rw[decide_eq_true (rfl:uF m now (λ_=>true)=uF m now λ_=>true)]at sm;simp only[SX,IJ,I8,s8,s10,g1,g4,sm,oJ,aB];exact⟨trivial,(l3.trans y0).trans (g2'.trans g5)⟩
end Go.Proofs.YtnigceddndemkaaGreatDoor.Ho
