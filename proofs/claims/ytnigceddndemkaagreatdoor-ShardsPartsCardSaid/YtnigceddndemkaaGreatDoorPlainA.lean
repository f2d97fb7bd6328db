/- Contracts of functions, and their laws. -/
import Derived.Test.YtnigceddndemkaaGreatDoorSDec
import Derived.Test.YtnigceddndemkaaGreatDoorOpnA
import Derived.Test.YtnigceddndemkaaGreatDoorHpA
import Derived.Test.YtnigceddndemkaaGreatDoorHpB
import Derived.Test.YtnigceddndemkaaGreatDoorOpzA
import Derived.KernelRfl
set_option linter.unusedVariables false
set_option linter.unusedSimpArgs false
set_option linter.unusedSectionVars false
namespace Go.Proofs.YtnigceddndemkaaGreatDoor
open Go Go.Eng Go.Hp
set_option maxRecDepth 100000
theorem lJ{b o:Nat}{cs:List Value}{x:Value}{W:AW}(h:rwCells W b=some cs)(hv:cs[o]? =some x):aR (.pointer (some ⟨b,o,none⟩)) W=some (x,W):=bU (fE h) hv
theorem dB{W:AW}{b:Nat}{cs:List Value}(h:W.get b=some (.cells cs)):rwCells W b=some cs:=by unfold rwCells;rw[h]
structure En where
 b:Nat
 h:Int
 v:Int
abbrev qC(e:En):Value:=.pointer (some ⟨e.b,0,none⟩)
abbrev JI(e:En)(i:Nat):List Value:=[.int .i64 e.h,.int .i64 e.v,.int .i64 (i:Int)]
def fF(n:Nat)(f:Nat->En):List Value:=(List.range n).map λi=>qC (f i)
theorem dM(n:Nat)(f:Nat->En):(fF n f).length=n:=by simp[fF]
theorem oW{n:Nat}(f:Nat->En){i:Nat}(h:i<n):(fF n f)[i]? =some (qC (f i)):=by unfold fF;rw[List.getElem?_map,List.getElem?_range h];rfl
inductive SlAt (W:AW) (n:Nat) (f:Nat->En):Value->Option Nat->Prop
 |nil:n=0->SlAt W n f (.slice none 0 0) none
 |row (bl:Nat) (junk:List Value):W.get bl=some (.cells (fF n f++junk))->bl<W.next->(∀i,i<n->(f i).b≠bl)->SlAt W n f (.slice (some ⟨bl,0,none⟩) n (bQ+1)) (some bl)
structure Pile (W:AW) (n:Nat) (f:Nat->En) (lv:Value) (bl:Option Nat):Prop where
 sl:SlAt W n f lv bl
 en:∀i,i<n->W.get (f i).b=some (.cells (JI (f i) i))/\(f i).b<W.next
 inj:∀i j,i<n->j<n->(f i).b=(f j).b->i=j
theorem Pile.get{W:AW}{n:Nat}{f:Nat->En}{lv:Value}{bl:Option Nat}(h:Pile W n f lv bl){i:Nat}(hi:i<n):∃b,bl=some b/\(∀W' k,jS 1 lv (.int k (i:Int)) W'=some (.pointer (some ⟨b,i,none⟩),W'))/\aR (.pointer (some ⟨b,i,none⟩)) W=some (qC (f i),W):=by
 cases h.sl with
 |nil h0=>omega
 |row b junk h1 h2 h3=>refine⟨b,rfl,λW' k=>by rw[nM hi,Nat.zero_add,Nat.mul_one],lJ (dB h1) ?_⟩;rw[List.getElem?_append_left (by rw[dM];exact hi),oW f hi]
def Own(n:Nat)(f:Nat->En)(bl:Option Nat)(b:Nat):Prop:=bl=some b\/∃i,i<n/\(f i).b=b
structure Fr (W W':AW) (S:Nat->Prop):Prop where
 next:W'.next=W.next
 get:∀b,¬S b->W'.get b=W.get b
theorem Fr.refl(W:AW)(S:Nat->Prop):Fr W W S:=⟨rfl,λ_ _=>rfl⟩
theorem Fr.trans{A B C:AW}{S:Nat->Prop}(h:Fr A B S)(k:Fr B C S):Fr A C S:=⟨k.next.trans h.next,λb hb=>(k.get b hb).trans (h.get b hb)⟩
section
variable {W:AW} {q:Nat} {lv less c2 c3:Value} {n:Nat} {f:Nat->En} {bl:Option Nat}
end
section
variable {W:AW} {q:Nat} {lv less c2 c3:Value} {n:Nat} {f:Nat->En} {bl:Option Nat}
theorem SlAt.lt{W:AW}{lv:Value}{bl:Option Nat}(h:SlAt W n f lv bl){b:Nat}(hb:bl=some b):b<W.next:=by
 cases h with
 |nil h0=>cases hb
 |row b junk h1 h2 h3=>cases hb;exact h2
end
theorem td2(i:Nat):((i:Int)-1).tdiv 2=(l9 i:Int):=by
 unfold l9;rcases Nat.eq_zero_or_pos i with rfl|h
 ·rfl
 ·rw[Int.tdiv_eq_ediv_of_nonneg (by omega)];omega
theorem a3U(i:Nat):l9 i<=i:=by unfold l9;omega
section
variable {W:AW} {q:Nat} {lv less c2 c3:Value} {n:Nat} {f:Nat->En} {bl:Option Nat} {ls:Int->Int->Bool}
end
theorem MB{W W':AW}(v:Value):gc W (v,W')=(v,W')\/(gc W (v,W')=(v,W)/\Le W W'):=by
 unfold gc;split
 ·rename_i h;exact .inr ⟨rfl,h.2⟩
 ·exact .inl rfl
section
variable {W:AW} {q:Nat} {lv less c2 c3:Value} {n:Nat} {f:Nat->En} {bl:Option Nat} {ls:Int->Int->Bool}
theorem VQ{α:Type}{lt:α->α->Bool}(o:Ord lt)(a:α):lt a a=false:=by
 cases h:lt a a with
 |false=>rfl
 |true=>have:=o.asym _ _ h;rw[h]at this;exact this
def a4p(n:Nat)(f g:Nat->En):Prop:=∀i,n<=i->g i=f i
theorem Own.low{n N:Nat}{f g:Nat->En}{bl:Option Nat}(h:(all n g).Perm (all n f))(hs:a4p n f g){b:Nat}(ho:Own N g bl b)(hN:n<=N):Own N f bl b:=by
 rcases ho with ho|⟨i,hi,rfl⟩
 ·exact .inl ho
 ·by_cases hin:i<n
  ·obtain⟨k,hk,e⟩:=dR.1 (h.mem_iff.1 (dR.2 ⟨i,hin,rfl⟩));exact .inr ⟨k,by omega,by rw[e]⟩
  ·exact .inr ⟨i,hi,by rw[hs i (by omega)]⟩
end
section
variable {W:AW} {q:Nat} {lv less c2 c3:Value} {n:Nat} {f:Nat->En} {bl:Option Nat} {ls:Int->Int->Bool}
end
section
variable {W:AW} {q:Nat} {lv less c2 c3:Value} {n:Nat} {f:Nat->En} {bl:Option Nat} {ls:Int->Int->Bool}
end
structure Gr (W W':AW) (In:Nat->Prop):Prop where
 next:W.next<=W'.next
 get:∀b,b<W.next->¬In b->W'.get b=W.get b
theorem Gr.refl(W:AW)(In:Nat->Prop):Gr W W In:=⟨Nat.le_refl _,λ_ _ _=>rfl⟩
theorem Gr.trans{A B C:AW}{In:Nat->Prop}(h:Gr A B In)(k:Gr B C In):Gr A C In:=⟨Nat.le_trans h.next k.next,λb hb hi=>(k.get b (Nat.lt_of_lt_of_le hb h.next) hi).trans (h.get b hb hi)⟩
section
variable {W:AW} {In:Nat->Prop} {q mh:Nat} {less:Value} {ls:Int->Int->Bool} {nx:Int} {n:Nat} {f:Nat->En}
end
section
variable {W:AW} {In:Nat->Prop} {q mh:Nat} {less:Value} {ls:Int->Int->Bool} {nx:Int} {n:Nat} {f:Nat->En}
end
end Go.Proofs.YtnigceddndemkaaGreatDoor
namespace Go.Proofs.YtnigceddndemkaaGreatDoor.Ho
open Go Go.Eng Go.Hp
set_option maxRecDepth 100000
theorem lJ{b o:Nat}{cs:List Value}{x:Value}{W:AW}(h:rwCells W b=some cs)(hv:cs[o]? =some x):aR (.pointer (some ⟨b,o,none⟩)) W=some (x,W):=bU (fE h) hv
theorem dB{W:AW}{b:Nat}{cs:List Value}(h:W.get b=some (.cells cs)):rwCells W b=some cs:=by unfold rwCells;rw[h]
theorem YZ{W:AW}{b o:Nat}{cs:List Value}{v:Value}(h:W.get b=some (.cells cs))(ho:o<cs.length)(hv:v.cells=#[v])(h1:Eng.one v=true):mY 1 (.pointer (some ⟨b,o,none⟩)) v W=some (undef,W.put b (.cells (cs.set o v))):=by rw[LW hv h1,dB h,Option.bind_some,if_pos ho]
theorem a6B:((#[279]:Array TypeId)[0]?).bind Tryz.prog.underlying=some (.slice 287):=by kernel_rfl
abbrev lG(v:Int×Int):Value:=.agg #[.int .i64 v.1,.int .i64 v.2]
structure En where
 b:Nat
 h:Int
 v:Int×Int
abbrev qC(e:En):Value:=.pointer (some ⟨e.b,0,none⟩)
abbrev JI(e:En)(i:Nat):List Value:=[.int .i64 e.h,.int .i64 e.v.1,.int .i64 e.v.2,.int .i64 (i:Int)]
def fF(n:Nat)(f:Nat->En):List Value:=(List.range n).map λi=>qC (f i)
theorem dM(n:Nat)(f:Nat->En):(fF n f).length=n:=by simp[fF]
theorem oW{n:Nat}(f:Nat->En){i:Nat}(h:i<n):(fF n f)[i]? =some (qC (f i)):=by unfold fF;rw[List.getElem?_map,List.getElem?_range h];rfl
theorem Y0(n:Nat)(f:Nat->En):fF (n+1) f=fF n f++[qC (f n)]:=by unfold fF;rw[List.range_succ,List.map_append];rfl
theorem TV{n:Nat}{f g:Nat->En}(h:∀i,i<n->f i=g i):fF n f=fF n g:=by unfold fF;exact List.map_congr_left λi hi=>by rw[h i (List.mem_range.1 hi)]
theorem a04{n:Nat}(f:Nat->En){i k:Nat}(hi:i<n)(hk:k<n)(j:List Value):((fF n f++j).set i (qC (f k))).set k (qC (f i))=fF n (yR f i k)++j:=by
 rw[List.set_append_left _ _ (by rw[dM];exact hi),List.set_append_left _ _ (by rw[List.length_set,dM];exact hk)];congr 1;apply List.ext_getElem?;intro m;by_cases hm:m<n
 ·rw[oW _ hm,List.getElem?_set,List.getElem?_set];simp only[List.length_set,dM];by_cases h1:k=m
  ·subst h1;rw[if_pos rfl,if_pos hk,yH]
  ·rw[if_neg h1];by_cases h2:i=m
   ·subst h2;rw[if_pos rfl,if_pos hi,pW]
   ·rw[if_neg h2,oW _ hm,iG _ (λe=>h2 e.symm) (λe=>h1 e.symm)]
 ·rw[List.getElem?_eq_none (by simp[dM];omega),List.getElem?_eq_none (by simp[dM];omega)]
inductive SlAt (W:AW) (n:Nat) (f:Nat->En):Value->Option Nat->Prop
 |nil:n=0->SlAt W n f (.slice none 0 0) none
 |row (bl:Nat) (junk:List Value):W.get bl=some (.cells (fF n f++junk))->bl<W.next->(∀i,i<n->(f i).b≠bl)->SlAt W n f (.slice (some ⟨bl,0,none⟩) n (bQ+1)) (some bl)
structure Pile (W:AW) (n:Nat) (f:Nat->En) (lv:Value) (bl:Option Nat):Prop where
 sl:SlAt W n f lv bl
 en:∀i,i<n->W.get (f i).b=some (.cells (JI (f i) i))/\(f i).b<W.next
 inj:∀i j,i<n->j<n->(f i).b=(f j).b->i=j
theorem Pile.len{W:AW}{n:Nat}{f:Nat->En}{lv:Value}{bl:Option Nat}(h:Pile W n f lv bl)(W':AW):aF Tryz.prog .len #[279] 3 #[false] [lv] W'=some (.int .i64 (n:Int),W'):=by
 cases h.sl with
 |nil h0=>subst h0;exact iA a6B _ _ _
 |row bl junk=>exact iA a6B _ _ _
theorem Pile.get{W:AW}{n:Nat}{f:Nat->En}{lv:Value}{bl:Option Nat}(h:Pile W n f lv bl){i:Nat}(hi:i<n):∃b,bl=some b/\(∀W' k,jS 1 lv (.int k (i:Int)) W'=some (.pointer (some ⟨b,i,none⟩),W'))/\aR (.pointer (some ⟨b,i,none⟩)) W=some (qC (f i),W):=by
 cases h.sl with
 |nil h0=>omega
 |row b junk h1 h2 h3=>refine⟨b,rfl,λW' k=>by rw[nM hi,Nat.zero_add,Nat.mul_one],lJ (dB h1) ?_⟩;rw[List.getElem?_append_left (by rw[dM];exact hi),oW f hi]
theorem Pile.cell{W:AW}{n:Nat}{f:Nat->En}{lv:Value}{bl:Option Nat}(h:Pile W n f lv bl){i:Nat}(hi:i<n):aR (.pointer (some ⟨(f i).b,0,none⟩)) W=some (.int .i64 (f i).h,W)/\jV 2 (.pointer (some ⟨(f i).b,1,none⟩)) W=some (lG (f i).v,W):=
 ⟨lJ (dB (h.en i hi).1) rfl,qB (fE (dB (h.en i hi).1)) rfl⟩
def Own(n:Nat)(f:Nat->En)(bl:Option Nat)(b:Nat):Prop:=bl=some b\/∃i,i<n/\(f i).b=b
structure Fr (W W':AW) (S:Nat->Prop):Prop where
 next:W'.next=W.next
 get:∀b,¬S b->W'.get b=W.get b
theorem Fr.refl(W:AW)(S:Nat->Prop):Fr W W S:=⟨rfl,λ_ _=>rfl⟩
theorem Fr.trans{A B C:AW}{S:Nat->Prop}(h:Fr A B S)(k:Fr B C S):Fr A C S:=⟨k.next.trans h.next,λb hb=>(k.get b hb).trans (h.get b hb)⟩
theorem Fr.mono{A B:AW}{S T:Nat->Prop}(h:Fr A B S)(hst:∀b,S b->T b):Fr A B T:=⟨h.next,λb hb=>h.get b (λhs=>hb (hst b hs))⟩
structure QP (W:AW) (q:Nat) (lv less c2 c3:Value) (n:Nat) (f:Nat->En) (bl:Option Nat):Prop where
 qc:W.get q=some (.cells [lv,less,c2,c3])
 lt:q<W.next
 pile:Pile W n f lv bl
 bq:bl≠some q
 eq:∀i,i<n->(f i).b≠q
section
variable {W:AW} {q:Nat} {lv less c2 c3:Value} {n:Nat} {f:Nat->En} {bl:Option Nat}
theorem QP.l0(h:QP W q lv less c2 c3 n f bl):aR (.pointer (some ⟨q,0,none⟩)) W=some (lv,W):=lJ (dB h.qc) rfl
theorem QP.l1(h:QP W q lv less c2 c3 n f bl):aR (.pointer (some ⟨q,1,none⟩)) W=some (less,W):=lJ (dB h.qc) rfl
theorem QP.l2(h:QP W q lv less c2 c3 n f bl):aR (.pointer (some ⟨q,2,none⟩)) W=some (c2,W):=lJ (dB h.qc) rfl
theorem QP.l3(h:QP W q lv less c2 c3 n f bl):aR (.pointer (some ⟨q,3,none⟩)) W=some (c3,W):=lJ (dB h.qc) rfl
theorem a2w(h:QP W q lv less c2 c3 n f bl):aL (.func (.func 385) #[] #[]) [.pointer (some ⟨q,0,none⟩)] W=some (.int .i64 (n:Int),W):=by refine aT rfl ?_ nS;unfold j5;simp only[SX,aI,Nat.zero_add,h.l0,h.pile.len,aA];exact⟨trivial,.refl _⟩
def sZ(ls:Int×Int->Int×Int->Bool)(a b:En):Bool:=ls a.v b.v||(!ls b.v a.v&&decide (a.h<b.h))
def x8(less:Value)(ls:Int×Int->Int×Int->Bool):Prop:=∀a b W,aL less [lG a,lG b] W=some (.bool (ls a b),W)
theorem TQ{ls:Int×Int->Int×Int->Bool}(hl:x8 less ls)(h:QP W q lv less c2 c3 n f bl){i k:Nat}(hi:i<n)(hk:k<n):aL (.func (.func 276) #[] #[]) [.pointer (some ⟨q,0,none⟩),qC (f i),qC (f k)] W=some (.bool (sZ ls (f i) (f k)),W):=by
 refine aT rfl ?_ lD;unfold bY sZ;obtain⟨a1,a2⟩:=h.pile.cell hi;obtain⟨b1,b2⟩:=h.pile.cell hk;simp only[SX,aI,Nat.zero_add,h.l1,a2,b2,hl (f i).v (f k).v];cases ls (f i).v (f k).v;case true=>simp only[SX,aA];exact⟨by simp,.refl _⟩
 simp only[SX,aI,Nat.zero_add,h.l1,a2,b2,hl (f k).v (f i).v];cases ls (f k).v (f i).v;case true=>simp only[SX,aA];exact⟨by simp,.refl _⟩
 simp only[SX,aI,Nat.zero_add,a1,b1,aA];exact⟨by simp,.refl _⟩
theorem a07{ls:Int×Int->Int×Int->Bool}(hl:x8 less ls)(h:QP W q lv less c2 c3 n f bl){i k:Nat}(hi:i<n)(hk:k<n):aL (.func (.func 386) #[] #[]) [.pointer (some ⟨q,0,none⟩),.int .i64 (i:Int),.int .i64 (k:Int)] W=some (.bool (sZ ls (f i) (f k)),W):=by refine aT rfl ?_ mZ;unfold iN;obtain⟨b,-,a1,a2⟩:=h.pile.get hi;obtain⟨b',-,b1,b2⟩:=h.pile.get hk;simp only[SX,aI,Nat.zero_add,h.l0,a1,a2,b1,b2,TQ hl h hi hk,aA];exact⟨trivial,.refl _⟩
theorem Z6(h:QP W q lv less c2 c3 n f bl){i k:Nat}(hi:i<n)(hk:k<n):∃W',aL (.func (.func 389) #[] #[]) [.pointer (some ⟨q,0,none⟩),.int .i64 (i:Int),.int .i64 (k:Int)] W=some (.tuple #[],W')/\QP W' q lv less c2 c3 n (yR f i k) bl/\Fr W W' (Own n f bl):=by
 have main:Ok (eT aL (.pointer (some ⟨q,0,none⟩)) (.int .i64 (i:Int)) (.int .i64 (k:Int)) W) λr=>r.1=.tuple #[]/\QP r.2 q lv less c2 c3 n (yR f i k) bl/\Fr W r.2 (Own n f bl):=by
  unfold eT;obtain⟨hq,hlt,⟨hsl,hen,hinj⟩,hbq,heq⟩:=h;cases hsl with
  |nil h0=>omega
  |row b junk h1 h2 h3=>
   have ix:∀{j:Nat} (hj:j<n) (W':AW) (kk:IntKind),jS 1 (.slice (some ⟨b,0,none⟩) n (bQ+1)) (.int kk (j:Int)) W'=some (.pointer (some ⟨b,j,none⟩),W'):=λhj W' kk=>by rw[nM hj,Nat.zero_add,Nat.mul_one]
   have hbq':b≠q:=λe=>hbq (by rw[e])
   have hl0:∀{W':AW},W'.get q=W.get q->aR (.pointer (some ⟨q,0,none⟩)) W'=some (.slice (some ⟨b,0,none⟩) n (bQ+1),W'):=λe=>lJ (dB (e.trans hq)) rfl
   have g1:∀{j:Nat},j<n->(fF n f++junk)[j]? =some (qC (f j)):=λhj=>by rw[List.getElem?_append_left (by rw[dM];exact hj),oW f hj]
   have hlen:∀{j:Nat},j<n->j<(fF n f++junk).length:=λhj=>by rw[List.length_append,dM];omega
   have s1:=YZ (W:=W) (v:=qC (f k)) h1 (hlen hi) rfl rfl;have hA:(W.put b (.cells ((fF n f++junk).set i (qC (f k))))).get b=some (.cells ((fF n f++junk).set i (qC (f k)))):=AW.get_put _ _ _;have s2:=YZ (v:=qC (f i)) hA (by rw[List.length_set];exact hlen hk) rfl rfl;rw[a04 f hi hk]at s2;have hB:∀X:AW,(X.put b (.cells (fF n (yR f i k)++junk))).get b=some (.cells (fF n (yR f i k)++junk)):=λX=>AW.get_put _ _ _
   simp only[SX,aI,Nat.zero_add,hl0 rfl,ix hi,ix hk,lJ (dB h1) (g1 hi),lJ (dB h1) (g1 hk),s1,s2];generalize hW2:(W.put b (.cells ((fF n f++junk).set i (qC (f k))))).put b (.cells (fF n (yR f i k)++junk))=W2 at *;have e2:∀c,c≠b->W2.get c=W.get c:=λc hc=>by rw[<-hW2,AW.get_put_ne _ _ (Ne.symm hc),AW.get_put_ne _ _ (Ne.symm hc)]
   have n2:W2.next=W.next:=by rw[<-hW2,AW.put_next,AW.put_next]
   have b2:W2.get b=some (.cells (fF n (yR f i k)++junk)):=by rw[<-hW2];exact AW.get_put _ _ _
   have g2:∀{j:Nat},j<n->(fF n (yR f i k)++junk)[j]? =some (qC (yR f i k j)):=λhj=>by rw[List.getElem?_append_left (by rw[dM];exact hj),oW _ hj]
   have ei:=hen i hi;have ek:=hen k hk;have c1:W2.get (f k).b=some (.cells (JI (f k) k)):=(e2 _ (h3 k hk)).trans ek.1;have s3:=YZ (v:=.int .i64 (i:Int)) (o:=3) c1 (by simp) rfl rfl;have s3':((JI (f k) k).set 3 (.int .i64 (i:Int)))=JI (f k) i:=rfl;rw[s3']at s3;simp only[SX,aI,Nat.zero_add,hl0 (e2 _ (Ne.symm hbq')),ix hi,ix hk,lJ (dB b2) (g2 hi),lJ (dB b2) (g2 hk),pW,yH,s3];generalize hW3:W2.put (f k).b (.cells (JI (f k) i))=W3 at *;have c2':∃p,W3.get (f i).b=some (.cells (JI (f i) p))/\(i=k->p=i):=by
    by_cases hik:i=k
    ·subst hik;exact⟨i,by rw[<-hW3];exact AW.get_put _ _ _,λ_=>rfl⟩
    ·refine⟨i,?_,λe=>absurd e hik⟩;rw[<-hW3,AW.get_put_ne _ _ (λe=>hik (hinj k i hk hi e).symm),e2 _ (h3 i hi)];exact ei.1
   obtain⟨p,c2',-⟩:=c2';have s4:=YZ (v:=.int .i64 (k:Int)) (o:=3) c2' (by simp) rfl rfl;have s4':((JI (f i) p).set 3 (.int .i64 (k:Int)))=JI (f i) k:=rfl;rw[s4']at s4;simp only[SX,aI,Nat.zero_add,s4,aA];have e4:∀c,c≠b->c≠(f k).b->c≠(f i).b->(W3.put (f i).b (.cells (JI (f i) k))).get c=W.get c:=λc x1 x2 x3=>by rw[AW.get_put_ne _ _ (Ne.symm x3),<-hW3,AW.get_put_ne _ _ (Ne.symm x2),e2 _ x1]
   have n4:(W3.put (f i).b (.cells (JI (f i) k))).next=W.next:=by rw[AW.put_next,<-hW3,AW.put_next,n2]
   have b4:(W3.put (f i).b (.cells (JI (f i) k))).get b=some (.cells (fF n (yR f i k)++junk)):=by rw[AW.get_put_ne _ _ (h3 i hi),<-hW3,AW.get_put_ne _ _ (h3 k hk)];exact b2
   have hb:∀j,(yR f i k j).b=(f j).b\/(j=i/\(yR f i k j).b=(f k).b)\/(j=k/\(yR f i k j).b=(f i).b):=λj=>by
    by_cases x1:j=i
    ·subst x1;rw[pW];exact .inr (.inl ⟨rfl,rfl⟩)
    ·by_cases x2:j=k
     ·subst x2;rw[yH];exact .inr (.inr ⟨rfl,rfl⟩)
     ·rw[iG _ x1 x2];exact .inl rfl
   have hcomp:∀j,yR f i k j=f (NK i k j):=λj=>by rw[QZ]
   refine⟨trivial,⟨?_,by rw[n4];exact hlt,⟨.row b junk b4 (by rw[n4];exact h2) (λj hj=>by rw[hcomp];exact h3 _ (wU hi hk hj)),λj hj=>?_,λj m hj hm e=>?_⟩,hbq,λj hj=>by rw[hcomp];exact heq _ (wU hi hk hj)⟩,n4,λc hc=>?_⟩
   ·rw[e4 q (Ne.symm hbq') (Ne.symm (heq k hk)) (Ne.symm (heq i hi))];exact hq
   ·rw[n4,hcomp];refine⟨?_,(hen _ (wU hi hk hj)).2⟩;by_cases x1:j=i
    ·subst x1;have:NK j k j=k:=pW id j k;rw[this];by_cases x2:j=k
     ·subst x2;exact AW.get_put _ _ _
     ·rw[AW.get_put_ne _ _ (λe=>x2 (hinj j k hi hk e)),<-hW3];exact AW.get_put _ _ _
    ·by_cases x2:j=k
     ·subst x2;have:NK i j j=i:=yH id i j;rw[this];exact AW.get_put _ _ _
     ·have:NK i k j=j:=iG id x1 x2;rw[this,e4 _ (h3 j hj) (λe=>x2 (hinj j k hj hk e)) (λe=>x1 (hinj j i hj hi e))];exact(hen j hj).1
   ·rw[hcomp,hcomp]at e;have:=hinj _ _ (wU hi hk hj) (wU hi hk hm) e;have:=congrArg (NK i k) this;rwa [yJ,yJ]at this
   ·exact e4 c (λe=>hc (.inl (by rw[e]))) (λe=>hc (.inr ⟨k,hk,e.symm⟩)) (λe=>hc (.inr ⟨i,hi,e.symm⟩))
 obtain⟨⟨r,W'⟩,h1,h2,h3⟩:=main;simp only at h2 h3;subst h2;exact⟨W',by rw[nD h1,fD rfl],h3⟩
end
theorem VS:l8 Tryz.prog #[279,279] 1 8=true:=by kernel_rfl
theorem a6G(v:Option Addr)(W:AW):aX Tryz.prog 279 1 [(0,.pointer v)] W=some (.slice (some ⟨W.next,0,none⟩) 1 1,W.add (.cells [.pointer v])):=Eq.trans (by kernel_rfl) rfl
theorem a6C(v:Value)(W:AW):NF Tryz.prog (.iface 287 v) 287 false W=some (v,W):=Eq.trans (by kernel_rfl) rfl
theorem a6b(v:Value)(W:AW):uW Tryz.prog 287 v W=some (.iface 287 v,W):=Eq.trans (by kernel_rfl) rfl
theorem a6d(v:Value)(W:AW):uW Tryz.prog 291 v W=some (.iface 291 v,W):=Eq.trans (by kernel_rfl) rfl
def snoc(n:Nat)(f:Nat->En)(e:En):Nat->En:=λi=>if i=n then e else f i
theorem mO{n i:Nat}{f:Nat->En}{e:En}(h:i<n):snoc n f e i=f i:=if_neg (by omega)
theorem A8(n:Nat)(f:Nat->En)(e:En):snoc n f e n=e:=if_pos rfl
theorem a0t(n:Nat)(f:Nat->En)(e:En):all (n+1) (snoc n f e)=all n f++[e]:=by rw[ZN,A8];congr 1;unfold all;exact List.map_congr_left λi hi=>mO (List.mem_range.1 hi)
theorem WO(n:Nat)(f:Nat->En)(e:En):fF (n+1) (snoc n f e)=fF n f++[qC e]:=by rw[Y0,A8,TV (g:=f) λi hi=>mO hi]
section
variable {W:AW} {q:Nat} {lv less c2 c3:Value} {n:Nat} {f:Nat->En} {bl:Option Nat}
theorem a8e{W:AW}{lv:Value}{bl:Option Nat}(h:SlAt W n f lv bl)(hn:n<=10000){b c:Nat}{x:Value}(hc:cellsAt W b=some [x])(hx:Eng.one x=true):∃W3,bE Tryz.prog W #[279,279] lv (.slice (some ⟨b,0,none⟩) 1 c)=some (.slice (some ⟨W.next,0,none⟩) (n+1) (bQ+1),W3)/\W3.next=W.next+1/\W3.get W.next=some (.cells (fF n f++[x]))/\∀b,b<W.next->bl≠some b->W3.get b=W.get b:=by
 cases h with
 |nil h0=>subst h0;exact⟨_,xS (new:=[x]) VS hc rfl rfl (by omega) (by simp[hx]) (by omega) (by omega),rfl,AW.get_add _ _,λd hd _=>AW.get_add_ne _ _ (by omega)⟩
 |row B junk h1 h2 h3=>
  refine⟨_,a2B (new:=[x]) (n:=1) (m:=n) VS hc rfl rfl (by omega) (by simp[hx]) h1 (by rw[List.length_append,dM];omega) (by omega) (by omega),rfl,?_,λd hd hne=>?_⟩
  ·have:=AW.get_add (W.kill B) (.cells ((fF n f++junk).take (n*1)++[x]));rw[AW.kill_next]at this;rw[this,Nat.mul_one,List.take_append_of_le_length (by rw[dM];omega),List.take_of_length_le (by rw[dM];omega)]
  ·rw[AW.get_add_ne _ _ (by rw[AW.kill_next];omega),AW.get_kill_ne _ (λe=>hne (by rw[e]))]
theorem SlAt.keep{W W':AW}{lv:Value}{bl:Option Nat}(h:SlAt W n f lv bl)(hn:W.next<=W'.next)(hg:∀b,bl=some b->W'.get b=W.get b):SlAt W' n f lv bl:=by
 cases h with
 |nil h0=>exact .nil h0
 |row b junk h1 h2 h3=>exact .row b junk ((hg b rfl).trans h1) (by omega) h3
theorem SlAt.lt{W:AW}{lv:Value}{bl:Option Nat}(h:SlAt W n f lv bl){b:Nat}(hb:bl=some b):b<W.next:=by
 cases h with
 |nil h0=>cases hb
 |row b junk h1 h2 h3=>cases hb;exact h2
theorem SlAt.ne{W:AW}{lv:Value}{bl:Option Nat}(h:SlAt W n f lv bl){i:Nat}(hi:i<n):bl≠some (f i).b:=by
 cases h with
 |nil h0=>omega
 |row b junk h1 h2 h3=>exactλe=>h3 i hi (by injection e with e;exact e.symm)
theorem a0U(h:QP W q lv less c2 c3 n f bl)(hn:n<=10000){e:En}{p:Value}(he:W.get e.b=some (.cells [.int .i64 e.h,.int .i64 e.v.1,.int .i64 e.v.2,p]))(hlt:e.b<W.next)(hq:e.b≠q)(hbl:bl≠some e.b)(hne:∀i,i<n->(f i).b≠e.b):
 ∃W' lv' b',aL (.func (.func 388) #[] #[]) [.pointer (some ⟨q,0,none⟩),.iface 287 (qC e)] W=some (.tuple #[],W')/\QP W' q lv' less c2 c3 (n+1) (snoc n f e) (some b')/\W.next<=b'/\W.next<=W'.next/\∀b,b<W.next->b≠q->b≠e.b->bl≠some b->W'.get b=W.get b:=by
 have main:Ok (eU aL (.pointer (some ⟨q,0,none⟩)) (.iface 287 (qC e)) W) λr=>r.1=.tuple #[]/\∃lv' b',QP r.2 q lv' less c2 c3 (n+1) (snoc n f e) (some b')/\W.next<=b'/\W.next<=r.2.next/\∀b,b<W.next->b≠q->b≠e.b->bl≠some b->r.2.get b=W.get b:=by
  unfold eU;have s1:=YZ (v:=.int .i64 (n:Int)) (o:=3) he (by simp) rfl rfl;have s1':([.int .i64 e.h,.int .i64 e.v.1,.int .i64 e.v.2,p]:List Value).set 3 (.int .i64 (n:Int))=JI e n:=rfl;rw[s1']at s1;simp only[SX,a6C,aI,Nat.zero_add,h.l0,h.pile.len,s1];obtain⟨hqc,hql,⟨hsl,hen,hinj⟩,hbq,heq⟩:=h;generalize hW1:W.put e.b (.cells (JI e n))=W1 at *;have g1:∀b,b≠e.b->W1.get b=W.get b:=λb hb=>by rw[<-hW1];exact AW.get_put_ne _ _ (Ne.symm hb)
  have n1:W1.next=W.next:=by rw[<-hW1,AW.put_next]
  have ge1:W1.get e.b=some (.cells (JI e n)):=by rw[<-hW1];exact AW.get_put _ _ _
  have q1:W1.get q=some (.cells [lv,less,c2,c3]):=(g1 q (Ne.symm hq)).trans hqc;have g2:∀b,b<W.next->(W1.add (.cells [qC e])).get b=W1.get b:=λb hb=>AW.get_add_ne _ _ (by omega)
  have hs2:SlAt (W1.add (.cells [qC e])) n f lv bl:=hsl.keep (by rw[AW.add_next,n1];omega) λb hb=>by rw[g2 b (hsl.lt hb),g1 b (λx=>hbl (by rw[hb,x]))]
  obtain⟨W3,a1,a2,a3,a4⟩:=a8e (b:=W1.next) (c:=1) hs2 hn dL (x:=qC e) rfl;rw[AW.add_next,n1]at a2 a3 a4;simp only[SX,aI,Nat.zero_add,lJ (o:=0) (dB q1) rfl,a6G,a1];rw[AW.add_next,n1];have g3:∀b,b<W.next->bl≠some b->W3.get b=W1.get b:=λb hb hne=>by rw[a4 b (by omega) hne,g2 b hb]
  have q3:=(g3 q hql hbq).trans q1;have s3:=YZ (v:=.slice (some ⟨W.next+1,0,none⟩) (n+1) (bQ+1)) (o:=0) q3 (by simp) rfl rfl;simp only[SX,aI,Nat.zero_add,s3,aA];rw[show([lv,less,c2,c3]:List Value).set 0 (.slice (some ⟨W.next+1,0,none⟩) (n+1) (bQ+1))=[.slice (some ⟨W.next+1,0,none⟩) (n+1) (bQ+1),less,c2,c3]from rfl]at *;generalize hW4:W3.put q (.cells [.slice (some ⟨W.next+1,0,none⟩) (n+1) (bQ+1),less,c2,c3])=W4 at *;have g4:∀b,b≠q->W4.get b=W3.get b:=λb hb=>by rw[<-hW4];exact AW.get_put_ne _ _ (Ne.symm hb)
  have n4:W4.next=W.next+1+1:=by rw[<-hW4,AW.put_next,a2]
  have hall:∀i,i<n+1->W4.get (snoc n f e i).b=some (.cells (JI (snoc n f e i) i))/\(snoc n f e i).b<W.next/\(snoc n f e i).b≠q:=λi hi=>by
   by_cases hin:i<n
   ·rw[mO hin];refine⟨?_,(hen i hin).2,heq i hin⟩;rw[g4 _ (heq i hin),g3 _ (hen i hin).2 (hsl.ne hin),g1 _ (hne i hin)];exact(hen i hin).1
   ·have:i=n:=by omega
    subst this;rw[A8];exact⟨by rw[g4 _ hq,g3 _ hlt hbl];exact ge1,hlt,hq⟩
  refine⟨trivial,_,W.next+1,⟨by rw[<-hW4];exact AW.get_put _ _ _,by omega,⟨.row (W.next+1) [] ?_ (by omega) (λi hi=>by have:=(hall i hi).2.1;omega),λi hi=>⟨(hall i hi).1,by have:=(hall i hi).2.1;omega⟩,λi j hi hj hij=>?_⟩,λx=>by injection x with x;omega,λi hi=>(hall i hi).2.2⟩,by omega,by omega,λb hb hbq' hbe hbb=>by rw[g4 _ hbq',g3 _ hb hbb,g1 _ hbe]⟩
  ·rw[g4 _ (by omega),a3,WO,List.append_nil]
  ·by_cases hin:i<n
   ·by_cases hjn:j<n
    ·rw[mO hin,mO hjn]at hij;exact hinj i j hin hjn hij
    ·have:j=n:=by omega
     subst this;rw[mO hin,A8]at hij;exact absurd hij (hne i hin)
   ·have:i=n:=by omega
    subst this;by_cases hjn:j<i
    ·rw[mO hjn,A8]at hij;exact absurd hij.symm (hne j hjn)
    ·omega
 obtain⟨⟨r,W'⟩,h1,h2,lv',b',h3⟩:=main;simp only at h2 h3;subst h2;exact⟨W',lv',b',by rw[mR h1,fD rfl],h3⟩
theorem a7Q(n:Nat)(hn:n<4611686018427387904)(W:AW):aD Tryz.prog .sub 3 false true (.int .i64 ((n+1:Nat):Int)) (.int .i64 1) W=some (.int .i64 (n:Int),W):=by rw[zR (by omega) (by omega)];congr 3;omega
end
theorem a5V(v:Value)(xs:List Value)(W:AW):kP Tryz.prog aL (.iface 291 v) "Less" xs W=aL (.func (.func 386) #[] #[]) (v::xs) W:=ME (by kernel_rfl) _ _
theorem a6E(v:Value)(xs:List Value)(W:AW):kP Tryz.prog aL (.iface 291 v) "Swap" xs W=aL (.func (.func 389) #[] #[]) (v::xs) W:=ME (by kernel_rfl) _ _
theorem a7Z(v:Value)(xs:List Value)(W:AW):kP Tryz.prog aL (.iface 291 v) "Len" xs W=aL (.func (.func 385) #[] #[]) (v::xs) W:=ME (by kernel_rfl) _ _
theorem a6n(v:Value)(xs:List Value)(W:AW):kP Tryz.prog aL (.iface 291 v) "Push" xs W=aL (.func (.func 388) #[] #[]) (v::xs) W:=ME (by kernel_rfl) _ _
abbrev hpV(q:Nat):Value:=.iface 291 (.pointer (some ⟨q,0,none⟩))
theorem Own.perm{n:Nat}{f g:Nat->En}{bl:Option Nat}(h:(all n g).Perm (all n f)){b:Nat}(ho:Own n g bl b):Own n f bl b:=by
 rcases ho with ho|⟨i,hi,rfl⟩
 ·exact .inl ho
 ·obtain⟨k,hk,e⟩:=dR.1 (h.mem_iff.1 (dR.2 ⟨i,hi,rfl⟩));exact .inr ⟨k,hk,by rw[e]⟩
section
variable {W:AW} {q:Nat} {lv less c2 c3:Value} {n:Nat} {f:Nat->En} {bl:Option Nat} {ls:Int×Int->Int×Int->Bool}
theorem a7a(o:Ord (sZ ls))(hl:x8 less ls)(h:QP W q lv less c2 c3 n f bl)(hn:n<=10001){j:Nat}(hj:j<n)(hup:Up (sZ ls) n f j):
 ∃W' g,aL (.func (.func 237) #[] #[]) [hpV q,.int .i64 (j:Int)] W=some (.tuple #[],W')/\QP W' q lv less c2 c3 n g bl/\Fr W W' (Own n f bl)/\Heap (sZ ls) n g/\(all n g).Perm (all n f):=by
 have main:Ok (mI aL (hpV q) (.int .i64 (j:Int)) W) λr=>r.1=.tuple #[]/\∃g,QP r.2 q lv less c2 c3 n g bl/\Fr W r.2 (Own n f bl)/\Heap (sZ ls) n g/\(all n g).Perm (all n f):=by
  unfold mI;have key:∀(i:Nat) (R:PlanTab.Fr) (W':AW) (g:Nat->En),i<n->R 0=hpV q->R 1=.int .i64 (i:Int)->QP W' q lv less c2 c3 n g bl->Fr W W' (Own n f bl)->Up (sZ ls) n g i->(all n g).Perm (all n f)->
   Ok (jA aL R W') λr=>(r.1=.exit 0/\∃g',QP r.2.2 q lv less c2 c3 n g' bl/\Fr W r.2.2 (Own n f bl)/\Heap (sZ ls) n g'/\(all n g').Perm (all n f))\/(r.1=.normal/\0<i/\∃g',r.2.1 0=hpV q/\r.2.1 1=.int .i64 (l9 i:Int)/\QP r.2.2 q lv less c2 c3 n g' bl/\Fr W r.2.2 (Own n f bl)/\Up (sZ ls) n g' (l9 i)/\(all n g').Perm (all n f)):=by
   intro i R W' g hi h0 h1 hQ hF hU hP;unfold jA;have e1:=zR (P:=Tryz.prog) (W:=W') (t:=3) (c:=false) (d:=true) (a:=(i:Int)) (b:=1) (by omega) (by omega);have e2:aD Tryz.prog .quo 3 false true (.int .i64 ((i:Int)-1)) (.int .i64 2) W'=some (.int .i64 (l9 i:Int),W'):=by rw[a0I (by omega),td2,zV (by omega) (by have:=a3U i;omega)]
   by_cases hi0:i=0
   ·subst hi0;have e3:((l9 0:Nat):Int)=((0:Nat):Int):=rfl;simp only[SX,h0,h1,e1,e2,e3,aA];exact .inl ⟨trivial,g,hQ,hF,hU.done (.inl rfl),hP⟩
   ·have hpi:=kD (k:=i) (by omega);have e3:¬((l9 i:Int)=(i:Int)):=by omega
    simp only[SX,h0,h1,e1,e2,e3,a5V,a07 hl hQ hi (show l9 i<n by omega)];cases hb:sZ ls (g i) (g (l9 i))
    ·simp only[SX,aA];exact .inl ⟨trivial,g,hQ,hF,hU.done (.inr hb),hP⟩
    ·obtain⟨W2,s1,s2,s3⟩:=Z6 hQ (show l9 i<n by omega) hi;simp only[SX,h0,h1,a6E,s1,aA];refine .inr ⟨trivial,by omega,_,h0,rfl,s2,hF.trans (s3.mono λb hb=>Own.perm hP hb),hU.step o (by omega) hi hb,(a11 g (show l9 i<n by omega) hi).trans hP⟩
  refine bR j (by omega) (λk R W'=>∃i g,i+k<=j/\i<n/\R 0=hpV q/\R 1=.int .i64 (i:Int)/\QP W' q lv less c2 c3 n g bl/\Fr W W' (Own n f bl)/\Up (sZ ls) n g i/\(all n g).Perm (all n f))
   (λr=>r.1=.exit 0/\∃g',QP r.2.2 q lv less c2 c3 n g' bl/\Fr W r.2.2 (Own n f bl)/\Heap (sZ ls) n g'/\(all n g').Perm (all n f)) ⟨j,f,by omega,hj,rfl,rfl,h,.refl _ _,hup,.refl _⟩ ?_ ?_ ?_
  ·rintro k R W' hk ⟨i,g,h1,h2,h3,h4,h5,h6,h7,h8⟩;refine(key i R W' g h2 h3 h4 h5 h6 h7 h8).mono λr hr=>?_
   rcases hr with hr|⟨r1,r2,g',r3,r4,r5,r6,r7,r8⟩
   ·exact .inr ⟨by rw[hr.1];simp,hr⟩
   ·have:=kD r2;exact .inl ⟨r1,l9 i,g',by omega,by omega,r3,r4,r5,r6,r7,r8⟩
  ·rintro R W' ⟨i,g,h1,h2,h3,h4,h5,h6,h7,h8⟩;refine(key i R W' g h2 h3 h4 h5 h6 h7 h8).mono λr hr=>?_
   rcases hr with hr|⟨r1,r2,-⟩
   ·exact⟨by rw[hr.1];simp,hr⟩
   ·omega
  ·rintro⟨x,R,W'⟩ ⟨hx,hq⟩;simp only at hx hq;subst hx;simp only[SX,aA];exact⟨trivial,hq⟩
 obtain⟨⟨r,W'⟩,h1,h2,g,h3⟩:=main;simp only at h2 h3;subst h2;exact⟨W',g,by rw[wF h1,fD rfl],h3⟩
end
section
variable {W:AW} {q:Nat} {lv less c2 c3:Value} {n:Nat} {f:Nat->En} {bl:Option Nat} {ls:Int×Int->Int×Int->Bool}
def a4p(n:Nat)(f g:Nat->En):Prop:=∀i,n<=i->g i=f i
theorem Own.low{n N:Nat}{f g:Nat->En}{bl:Option Nat}(h:(all n g).Perm (all n f))(hs:a4p n f g){b:Nat}(ho:Own N g bl b)(hN:n<=N):Own N f bl b:=by
 rcases ho with ho|⟨i,hi,rfl⟩
 ·exact .inl ho
 ·by_cases hin:i<n
  ·obtain⟨k,hk,e⟩:=dR.1 (h.mem_iff.1 (dR.2 ⟨i,hin,rfl⟩));exact .inr ⟨k,by omega,by rw[e]⟩
  ·exact .inr ⟨i,hi,by rw[hs i (by omega)]⟩
end
section
variable {W:AW} {q:Nat} {lv less c2 c3:Value} {n:Nat} {f:Nat->En} {bl:Option Nat} {ls:Int×Int->Int×Int->Bool}
theorem a2W{lt:En->En->Bool}{e:En}(h:Heap lt n f):Up lt (n+1) (snoc n f e) n:=by
 refine⟨λk h0 h1 h2=>?_,λk h0 h1 h2 h3=>?_⟩
 ·have:=kD h0;rw[mO (by omega),mO (by omega)];exact h k h0 (by omega)
 ·have:=kD h0;omega
theorem a02(o:Ord (sZ ls))(hl:x8 less ls)(h:QP W q lv less c2 c3 n f bl)(hh:Heap (sZ ls) n f)(hn:n<=10000){e:En}{p:Value}(he:W.get e.b=some (.cells [.int .i64 e.h,.int .i64 e.v.1,.int .i64 e.v.2,p]))(hlt:e.b<W.next)(hq:e.b≠q)(hbl:bl≠some e.b)(hne:∀i,i<n->(f i).b≠e.b):
 ∃W' lv' b' g,aL (.func (.func 195) #[] #[]) [hpV q,.iface 287 (qC e)] W=some (.tuple #[],W')/\QP W' q lv' less c2 c3 (n+1) g (some b')/\Heap (sZ ls) (n+1) g/\(all (n+1) g).Perm (e::all n f)/\W.next<=b'/\W.next<=W'.next/\∀b,b<W.next->b≠q->b≠e.b->¬Own n f bl b->W'.get b=W.get b:=by
 obtain⟨W1,lv',b',p1,p2,p3,p4,p5⟩:=a0U h hn he hlt hq hbl hne;obtain⟨W2,g,u1,u2,u3,u4,u5⟩:=a7a o hl p2 (by omega) (Nat.lt_succ_self n) (a2W hh);have main:Ok (jN aL (hpV q) (.iface 287 (qC e)) W) λr=>r.1=.tuple #[]/\r.2=W2:=by unfold jN;simp only[SX,a6n,p1,a7Z,a2w p2,a7Q n (by omega),u1,aA];exact⟨trivial,trivial⟩
 obtain⟨⟨r,W'⟩,h1,h2,h3⟩:=main;simp only at h2 h3;subst h2;subst h3;refine⟨_,lv',b',g,by rw[tH h1,fD rfl],u2,u4,u5.trans (by rw[a0t];exact List.perm_append_singleton _ _),p3,by rw[u3.next];exact p4,λb hb hbq hbe ho=>?_⟩;rw[u3.get b λho2=>?_,p5 b hb hbq hbe λhx=>ho (.inl hx)];rcases ho2 with ho2|⟨i,hi,ho2⟩
 ·injection ho2 with ho2;omega
 ·by_cases hin:i<n
  ·rw[mO hin]at ho2;exact ho (.inr ⟨i,hin,ho2⟩)
  ·have:i=n:=by omega
   subst this;rw[A8]at ho2;exact hbe ho2.symm
end
section
variable {W:AW} {q:Nat} {lv less c2 c3:Value} {n:Nat} {f:Nat->En} {bl:Option Nat} {ls:Int×Int->Int×Int->Bool}
end
end Go.Proofs.YtnigceddndemkaaGreatDoor.Ho
namespace Go.Proofs.YtnigceddndemkaaGreatDoor
open Go Go.Eng Go.Hp
set_option maxRecDepth 100000
section
variable {W:AW} {q:Nat} {lv less c2 c3:Value} {n:Nat} {f:Nat->En} {bl:Option Nat} {ls:Int->Int->Bool}
end
section
variable {W:AW} {q:Nat} {lv less c2 c3:Value} {n:Nat} {f:Nat->En} {bl:Option Nat} {ls:Int->Int->Bool}
end
end Go.Proofs.YtnigceddndemkaaGreatDoor
namespace Go.Proofs.YtnigceddndemkaaGreatDoor.Ho
open Go Go.Eng Go.Hp
set_option maxRecDepth 100000
section
variable {W:AW} {q:Nat} {lv less c2 c3:Value} {n:Nat} {f:Nat->En} {bl:Option Nat} {ls:Int×Int->Int×Int->Bool}
end
theorem u24:Tryz.prog.underlying 216=some (.pointer 284):=by kernel_rfl
theorem a6e:Tryz.prog.underlying 282=some (.map 2 287):=by kernel_rfl
theorem u2:Tryz.prog.underlying 2=some (.int .i64):=by kernel_rfl
theorem pNe(a:Addr)(c d:Bool)(W:AW):aD Tryz.prog .neq 216 c d (.pointer (some a)) (.pointer none) W=some (.bool true,W):=by unfold aD iV gK;simp only[u24];rfl
theorem mNe(m:Nat)(c d:Bool)(W:AW):aD Tryz.prog .neq 282 c d (.map (some m)) (.map none) W=some (.bool true,W):=by unfold aD iV gK;simp only[a6e];rfl
theorem a6h(h:Int)(v:Int×Int)(W:AW):iO Tryz.prog 289 [(0,.int .i64 h),(1,lG v)] W=some (.agg #[.int .i64 h,.int .i64 v.1,.int .i64 v.2,.int .i64 0],W):=Eq.trans (by kernel_rfl) rfl
theorem a6x(W:AW):dP Tryz.prog 42 W=some (.pointer (some ⟨W.next,0,none⟩),W.add (.cells [.int .i64 0,.int .i64 0])):=Eq.trans (by kernel_rfl) rfl
theorem a6a{W:AW}{b:Nat}{x y:Value}(v:Int×Int)(h:W.get b=some (.cells [x,y])):mY 2 (.pointer (some ⟨b,0,none⟩)) (lG v) W=some (undef,W.put b (.cells [.int .i64 v.1,.int .i64 v.2])):=by rw[zO,dB h,Option.bind_some,if_pos ⟨rfl,by simp,rfl⟩];rfl
theorem a3Q{W:AW}{b:Nat}{v:Int×Int}(h:W.get b=some (.cells [.int .i64 v.1,.int .i64 v.2])):jV 2 (.pointer (some ⟨b,0,none⟩)) W=some (lG v,W):=vT (aZ h) rfl
theorem SlAt.ne_succ{W W':AW}{n:Nat}{f g:Nat->En}{lv lv':Value}{bl bl':Option Nat}(h:SlAt W (n+1) f lv bl)(h':SlAt W' n g lv' bl'):lv'≠lv:=by
 cases h with
 |nil h0=>omega
 |row b junk h1 h2 h3=>
  cases h' with
  |nil h0=>simp
  |row b' junk' h1' h2' h3'=>intro e;injection e with _ e;omega
section
variable {W:AW} {q:Nat} {lv less c2 c3:Value} {n:Nat} {f:Nat->En} {bl:Option Nat} {ls:Int×Int->Int×Int->Bool}
theorem QP.keep{W W':AW}(h:QP W q lv less c2 c3 n f bl)(hn:W.next<=W'.next)(hg:∀b,b<W.next->b=q\/Own n f bl b->W'.get b=W.get b):QP W' q lv less c2 c3 n f bl:=by obtain⟨hqc,hql,⟨hsl,hen,hinj⟩,hbq,heq⟩:=h;refine⟨by rw[hg q hql (.inl rfl)];exact hqc,by omega,⟨hsl.keep hn λb hb=>hg b (hsl.lt hb) (.inr (.inl hb)),λi hi=>?_,hinj⟩,hbq,heq⟩;have:=(hen i hi).2;exact⟨by rw[hg _ this (.inr (.inr ⟨i,hi,rfl⟩))];exact(hen i hi).1,by omega⟩
theorem QP.turn{c3':Value}(h:QP W q lv less c2 c3 n f bl):QP (W.put q (.cells [lv,less,c2,c3'])) q lv less c2 c3' n f bl:=by obtain⟨hqc,hql,⟨hsl,hen,hinj⟩,hbq,heq⟩:=h;refine⟨AW.get_put _ _ _,by rw[AW.put_next];exact hql,⟨hsl.keep (by rw[AW.put_next];omega) λb hb=>AW.get_put_ne _ _ (λe=>hbq (by rw[hb,e])),λi hi=>?_,hinj⟩,hbq,heq⟩;rw[AW.get_put_ne _ _ (Ne.symm (heq i hi)),AW.put_next];exact hen i hi
end
structure QS (W:AW) (In:Nat->Prop) (q mh:Nat) (less:Value) (ls:Int×Int->Int×Int->Bool) (nx:Int) (n:Nat) (f:Nat->En):Prop where
 ex:∃lv bl,QP W q lv less (.map (some mh)) (.int .i64 nx) n f bl/\bl≠some mh/\∀b,Own n f bl b->In b
 ml:mh<W.next
 mq:mh≠q
 me:∀i,i<n->(f i).b≠mh
 iq:In q
 im:In mh
 hp:Heap (sZ ls) n f
 mp:∃m,MapV W mh m n/\(∀i,i<n->m (f i).h=some (qC (f i)))/\∀k v,m k=some v->∃i,i<n/\(f i).h=k/\v=qC (f i)
 hd:∀i,i<n->1<=(f i).h/\(f i).h<nx
 nx1:1<=nx
structure Gr (W W':AW) (In:Nat->Prop):Prop where
 next:W.next<=W'.next
 get:∀b,b<W.next->¬In b->W'.get b=W.get b
theorem Gr.refl(W:AW)(In:Nat->Prop):Gr W W In:=⟨Nat.le_refl _,λ_ _ _=>rfl⟩
theorem Gr.trans{A B C:AW}{In:Nat->Prop}(h:Gr A B In)(k:Gr B C In):Gr A C In:=⟨Nat.le_trans h.next k.next,λb hb hi=>(k.get b (Nat.lt_of_lt_of_le hb h.next) hi).trans (h.get b hb hi)⟩
section
variable {W:AW} {In:Nat->Prop} {q mh:Nat} {less:Value} {ls:Int×Int->Int×Int->Bool} {nx:Int} {n:Nat} {f:Nat->En}
theorem QS.keep{W W':AW}{In':Nat->Prop}(h:QS W In q mh less ls nx n f)(hn:W.next<=W'.next)(hg:∀b,b<W.next->In b->W'.get b=W.get b)(hi:∀b,b<W.next->In b->In' b):QS W' In' q mh less ls nx n f:=by
 obtain⟨⟨lv,bl,h1,h2,h3⟩,ml,mq,me,iq,im,hp,⟨m,m1,m2⟩,hd,nx1⟩:=h;refine⟨⟨lv,bl,h1.keep hn λb hb ho=>hg b hb ?_,h2,λb hb=>hi b ?_ (h3 b hb)⟩,by omega,mq,me,hi q h1.lt iq,hi mh ml im,hp,⟨m,m1.keep (hg mh ml im),m2⟩,hd,nx1⟩
 ·rcases ho with rfl|ho
  ·exact iq
  ·exact h3 b ho
 ·rcases hb with hb|⟨i,hi',rfl⟩
  ·exact h1.pile.sl.lt hb
  ·exact(h1.pile.en i hi').2
abbrev qV(q:Nat):Value:=.pointer (some ⟨q,0,none⟩)
theorem VE(h:QS W In q mh less ls nx n f):aL (.func (.func 194) #[] #[]) [qV q] W=some (.bool true,W):=by obtain⟨⟨lv,bl,h1,h2,h3⟩,-⟩:=h;refine aT rfl ?_ lY;unfold iD;simp only[SX,pNe,aI,Nat.zero_add,h1.l2,mNe,aA];exact⟨trivial,.refl _⟩
end
theorem a7R:(match Tryz.prog.underlying 215 with|some (.func _ _ _)=>true|_=>false)=true:=by kernel_rfl
theorem u26:∃a b c,Tryz.prog.underlying 215=some (.func a b c):=by
 have h:=a7R;split at h
 ·rename_i a b c e;exact⟨a,b,c,e⟩
 ·cases h
theorem a8j(k:Nat)(W:AW):aD Tryz.prog .eql 215 false true (.func (.func k) #[] #[]) .nilFunc W=some (.bool false,W):=by obtain⟨a,b,c,h⟩:=u26;unfold aD iV gK;simp only[h]
theorem a6L(k:Nat)(W:AW):iO Tryz.prog 281 [(1,.func (.func k) #[] #[])] W=some (.agg #[.slice none 0 0,.func (.func k) #[] #[]],W):=Eq.trans (by kernel_rfl) rfl
theorem a6w(k m:Nat)(W:AW):iO Tryz.prog 284 [(0,.agg #[.slice none 0 0,.func (.func k) #[] #[]]),(1,.map (some m)),(2,.int .i64 1)] W=some (.agg #[.slice none 0 0,.func (.func k) #[] #[],.map (some m),.int .i64 1],W):=Eq.trans (by kernel_rfl) rfl
theorem P9(a b c d:Value)(W:AW):eH (.agg #[a,b,c,d]) W=some (.pointer (some ⟨W.next,0,none⟩),W.add (.cells [a,b,c,d])):=fH _
theorem mkM(W:AW):rZ Tryz.prog 282 none W=some (.map (some W.next),W.add (.map [] 0)):=rfl
theorem a4T{In:Nat->Prop}{W:AW}(hi:∀b,W.next<=b->In b)(k:Nat)(ls:Int×Int->Int×Int->Bool)(f:Nat->En):∃W' q mh,aL (.func (.func 136) #[] #[]) [.func (.func k) #[] #[]] W=some (qV q,W')/\QS W' In q mh (.func (.func k) #[] #[]) ls 1 0 f/\Gr W W' In:=by
 have main:iL aL (.func (.func k) #[] #[]) W=some (qV (W.next+1),(W.add (.map [] 0)).add (.cells [.slice none 0 0,.func (.func k) #[] #[],.map (some W.next),.int .i64 1])):=by unfold iL;simp only[SX,a8j,a6L,mkM,a6w,P9];rfl
 have e:=rE main;rw[fD rfl]at e;refine⟨_,W.next+1,W.next,e,⟨⟨.slice none 0 0,none,⟨by rw[<-AW.add_next W (.map [] 0)];exact AW.get_add _ _,by simp only[AW.add_next];omega,⟨.nil rfl,λi hi=>by omega,λi j hi=>by omega⟩,by simp,λi hi=>by omega⟩,by simp,λb hb=>?_⟩,by simp only[AW.add_next];omega,by omega,λi hi=>by omega,hi _ (by omega),hi _ (by omega),λk _ hk=>by omega,⟨_,mapV_new.keep (AW.get_add_ne _ _ (by rw[AW.add_next];omega)),λi hi=>by omega,λk v hk=>by cases hk⟩,λi hi=>by omega,by omega⟩,by simp only[AW.add_next];omega,λb hb _=>?_⟩
 ·rcases hb with hb|⟨i,hi,-⟩
  ·cases hb
  ·omega
 ·rw[AW.get_add_ne _ _ (by rw[AW.add_next];omega),AW.get_add_ne _ _ (by omega)]
section
variable {W:AW} {In:Nat->Prop} {q mh:Nat} {less:Value} {ls:Int×Int->Int×Int->Bool} {nx:Int} {n:Nat} {f:Nat->En}
theorem a1u(o:Ord (sZ ls))(hl:x8 less ls)(h:QS W In q mh less ls nx n f)(hn:n<5000)(hnx:nx<1000000000000000)(hi:∀b,W.next<=b->In b)(v:Int×Int):
 ∃W' g,aL (.func (.func 138) #[] #[]) [qV q,lG v] W=some (.tuple #[.int .i64 nx,.int .i64 0],W')/\QS W' In q mh less ls (nx+1) (n+1) g/\(all (n+1) g).Perm (⟨W.next+1,nx,v⟩::all n f)/\Gr W W' In:=by
 generalize hV:W.add (.cells [.int .i64 v.1,.int .i64 v.2])=V;have lV:Le W V:=by rw[<-hV];exact(Le.refl _).add _
 have nV:V.next=W.next+1:=by rw[<-hV,AW.add_next]
 have xV:V.get W.next=some (.cells [.int .i64 v.1,.int .i64 v.2]):=by rw[<-hV];exact AW.get_add _ _
 have oBh:eH (lG v) W=some (.pointer (some ⟨W.next,0,none⟩),V):=by rw[<-hV];exact fH _
 have hW:=h;replace h:QS V In q mh less ls nx n f:=h.keep lV.next (λb hb _=>lV.get b hb) (λb _ hi=>hi);replace hi:∀b,V.next<=b->In b:=λb hb=>hi b (by omega)
 rw[<-nV];have hm:=VE h;have main:Ok (eD aL (qV q) (lG v) W) λr=>r.1=.tuple #[.int .i64 nx,.int .i64 0]/\(∃g,QS r.2 In q mh less ls (nx+1) (n+1) g/\(all (n+1) g).Perm (⟨V.next,nx,v⟩::all n f)/\Gr V r.2 In)/\r.2.get q≠V.get q/\q<V.next:=by
  obtain⟨⟨lv,bl,h1,h2,h3⟩,ml,mq,me,iq,im,hp,⟨m,m1,m2,m3⟩,hd,nx1⟩:=h;have e1:¬(5000<=(n:Int)):=by omega
  have e2:¬(1000000000000000<=nx):=by omega
  have e3:=λW'=>bA (P:=Tryz.prog) (W:=W') (t:=2) (c:=false) (d:=true) (a:=nx) (b:=1) (by omega) (by omega)
  unfold eD;generalize hW1:V.add (.cells [.int .i64 nx,.int .i64 v.1,.int .i64 v.2,.int .i64 0])=W1;have g1:∀b,b<V.next->W1.get b=V.get b:=λb hb=>by rw[<-hW1];exact AW.get_add_ne _ _ (by omega)
  have n1:W1.next=V.next+1:=by rw[<-hW1,AW.add_next]
  have ge1:W1.get V.next=some (.cells [.int .i64 nx,.int .i64 v.1,.int .i64 v.2,.int .i64 0]):=by rw[<-hW1];exact AW.get_add _ _
  have q1:QP W1 q lv less (.map (some mh)) (.int .i64 nx) n f bl:=h1.keep (by omega) λb hb _=>g1 b hb
  have s1:=YZ (v:=.int .i64 (nx+1)) (o:=3) q1.qc (by simp) rfl rfl;rw[show([lv,less,.map (some mh),.int .i64 nx]:List Value).set 3 (.int .i64 (nx+1))=[lv,less,.map (some mh),.int .i64 (nx+1)]from rfl]at s1;have q2:=q1.turn (c3':=.int .i64 (nx+1));generalize hW2:W1.put q (.cells [lv,less,.map (some mh),.int .i64 (nx+1)])=W2 at s1 q2;have g2:∀b,b≠q->W2.get b=W1.get b:=λb hb=>by rw[<-hW2];exact AW.get_put_ne _ _ (Ne.symm hb)
  have n2:W2.next=V.next+1:=by rw[<-hW2,AW.put_next,n1]
  have hqn:V.next≠q:=by have:=h1.lt;omega
  have ge2:W2.get V.next=some (.cells [.int .i64 nx,.int .i64 v.1,.int .i64 v.2,.int .i64 0]):=(g2 _ hqn).trans ge1;have m1':MapV W2 mh m n:=m1.keep (by rw[g2 _ mq,g1 _ ml]);obtain⟨es,c,d1,d2⟩:=OM m1' a6e u2 nx (.pointer (some ⟨V.next,0,none⟩));have hmn:m nx=none:=by
   cases hx:m nx with
   |none=>rfl
   |some v=>obtain⟨i,hi,e,-⟩:=m3 nx v hx;have:=(hd i hi).2;omega
  rw[hmn]at d2;simp only[Option.isSome_none,Bool.false_eq_true,if_false]at d2;generalize hW3:W2.put mh (.map es c)=W3 at d1 d2;have g3:∀b,b≠mh->W3.get b=W2.get b:=λb hb=>by rw[<-hW3];exact AW.get_put_ne _ _ (Ne.symm hb)
  have n3:W3.next=V.next+1:=by rw[<-hW3,AW.put_next,n2]
  have hown:∀b,Own n f bl b->b<V.next:=λb hb=>by
   rcases hb with hb|⟨i,hi,rfl⟩
   ·exact h1.pile.sl.lt hb
   ·exact(h1.pile.en i hi).2
  have q3:QP W3 q lv less (.map (some mh)) (.int .i64 (nx+1)) n f bl:=q2.keep (by omega) λb hb ho=>g3 b λe=>by
   subst e;rcases ho with ho|ho|⟨i,hi,ho⟩
   ·exact mq ho
   ·exact h2 ho
   ·exact me i hi ho
  have ge3:W3.get V.next=some (.cells [.int .i64 nx,.int .i64 v.1,.int .i64 v.2,.int .i64 0]):=(g3 _ (by omega)).trans ge2;obtain⟨W4,lv',b',g,p1,p2,p3,p4,p5,p6,p7⟩:=a02 (e:=⟨V.next,nx,v⟩) o hl q3 hp (by omega) ge3 (by rw[n3];exact Nat.lt_succ_self _) hqn (λe=>by have:=hown _ (.inl e);simp at this) (λi hi e=>by have:=(h1.pile.en i hi).2;simp only at e;omega);obtain⟨j,hj,ej⟩:=dR.1 (p4.mem_iff.2 (List.mem_cons_self ..));have l4:aR (.pointer (some ⟨V.next,0,none⟩)) W4=some (.int .i64 nx,W4):=by have:=(p2.pile.cell hj).1;rw[ej]at this;exact this
  simp only[SX,hm,aI,Nat.zero_add,h1.l0,h1.l3,h1.pile.len,e1,e2,oBh,a3Q xV,a6h,P9,hW1,q1.l3,e3,s1,q2.l2,lJ (o:=0) (dB ge2) rfl,d1,a6d,a6b,p1,l4,aA];have hmem:∀i,i<n+1->g i=⟨V.next,nx,v⟩\/∃k,k<n/\f k=g i:=λi hi=>by
   rcases List.mem_cons.1 (p4.mem_iff.1 (dR.2 ⟨i,hi,rfl⟩))with e|e
   ·exact .inl e
   ·exact .inr (dR.1 e)
  have q4:W4.get q=some (.cells [lv',less,.map (some mh),.int .i64 (nx+1)]):=p2.qc;refine⟨trivial,⟨g,⟨⟨lv',some b',p2,λe=>by injection e with e;omega,λb hb=>?_⟩,by omega,mq,λi hi'=>?_,iq,im,p3,⟨_,d2.keep (p7 mh (by omega) mq (by simp only;omega) λho=>?_),λi hi'=>?_,λk v' hk=>?_⟩,λi hi'=>?_,by omega⟩,p4,by omega,λb hb hni=>?_⟩,?_,h1.lt⟩
  ·rcases hb with hb|⟨i,hi',rfl⟩
   ·injection hb with hb;exact hi b (by omega)
   ·rcases hmem i hi' with e|⟨k,hk,e⟩
    ·rw[e];exact hi _ (Nat.le_refl _)
    ·rw[<-e];exact h3 _ (.inr ⟨k,hk,rfl⟩)
  ·rcases hmem i hi' with e|⟨k,hk,e⟩
   ·rw[e];simp only;omega
   ·rw[<-e];exact me k hk
  ·rcases ho with ho|⟨i,hi',ho⟩
   ·exact h2 ho
   ·exact me i hi' ho
  ·rcases hmem i hi' with e|⟨k,hk,e⟩
   ·rw[e,if_pos rfl]
   ·have:=(hd k hk).2;rw[<-e,if_neg (by omega)];exact m2 k hk
  ·by_cases hk0:k=nx
   ·rw[if_pos hk0]at hk;injection hk with hk;exact⟨j,hj,by rw[ej,hk0],by rw[ej,<-hk]⟩
   ·rw[if_neg hk0]at hk;obtain⟨i,hi',x1,x2⟩:=m3 k v' hk;obtain⟨i2,hi2,x3⟩:=dR.1 (p4.mem_iff.2 (List.mem_cons_of_mem _ (dR.2 ⟨i,hi',rfl⟩)));exact⟨i2,hi2,by rw[x3];exact x1,by rw[x3];exact x2⟩
  ·rcases hmem i hi' with e|⟨k,hk,e⟩
   ·rw[e];simp only;omega
   ·have:=hd k hk;rw[<-e];omega
  ·rw[p7 b (by omega) (λe=>hni (by rw[e];exact iq)) (by simp only;omega) (λho=>hni (h3 b ho)),g3 b (λe=>hni (by rw[e];exact im)),g2 b (λe=>hni (by rw[e];exact iq)),g1 b hb]
  ·rw[q4,h1.qc];intro e;injection e with e;injection e with e;injection e with _ e;injection e with _ e;injection e with _ e;injection e with e _;injection e with _ e;omega
 obtain⟨⟨r,W'⟩,h1,h2,⟨g,h3,h3',h3''⟩,h4,h5⟩:=main;simp only at h2 h3 h3' h3'' h4 h5;subst h2;have hql:q<W.next:=by obtain⟨⟨lv,bl,k1,-⟩,-⟩:=hW;exact k1.lt
 have hG:Gr W W' In:=⟨Nat.le_trans lV.next h3''.next,λb hb hn=>(h3''.get b (by omega) hn).trans (lV.get b hb)⟩;rcases MB (W:=W) (W':=W') (.tuple #[.int .i64 nx,.int .i64 0])with hg|⟨hg,hle⟩
 ·exact⟨W',g,by rw[mE h1,hg],h3,h3',hG⟩
 ·exact absurd ((hle.get q hql).trans (lV.get q hql).symm) h4
end
def hv(e:En):Int×(Int×Int):=(e.h,e.v)
end Go.Proofs.YtnigceddndemkaaGreatDoor.Ho
namespace Go.Proofs.YtnigceddndemkaaGreatDoor
open Go Go.Eng Go.Hp
set_option maxRecDepth 100000
section
variable {W:AW} {In:Nat->Prop} {q mh:Nat} {less:Value} {ls:Int->Int->Bool} {nx:Int} {n:Nat} {f:Nat->En}
theorem NB(v:Value)(W:AW):gc W (v,W)=(v,W):=by rcases MB (W:=W) (W':=W) v with h|⟨h,-⟩<;>exact h
end
end Go.Proofs.YtnigceddndemkaaGreatDoor
namespace Go.Proofs.YtnigceddndemkaaGreatDoor.Ho
open Go Go.Eng Go.Hp
set_option maxRecDepth 100000
section
variable {W:AW} {In:Nat->Prop} {q mh:Nat} {less:Value} {ls:Int×Int->Int×Int->Bool} {nx:Int} {n:Nat} {f:Nat->En}
end
end Go.Proofs.YtnigceddndemkaaGreatDoor.Ho
namespace Go.Proofs.YtnigceddndemkaaGreatDoor
open Go Go.Eng Go.Hp
set_option maxRecDepth 100000
def hv(e:En):Int×Int:=(e.h,e.v)
theorem LP:((#[69]:Array TypeId)[0]?).bind Tryz.prog.underlying=some (.slice 3):=by kernel_rfl
theorem s4:lC Tryz.prog 4=some 1:=by kernel_rfl
theorem b4:(Tryz.prog.info? 4).map (·.bytes)=some 1:=by kernel_rfl
section
variable {P:Program} {W:AW}
end
end Go.Proofs.YtnigceddndemkaaGreatDoor
namespace Go.Proofs.YtnigceddndemkaaGreatDoor.Ho
open Go Go.Eng Go.Hp
set_option maxRecDepth 100000
def IsLess1(less:Value)(ls:Int×Int->Int×Int->Bool):Prop:=∀a b W,lF less [lG a,lG b] W=some (.bool (ls a b),W)
theorem IsLess1.up{less:Value}{ls:Int×Int->Int×Int->Bool}(h:IsLess1 less ls):x8 less ls:=λa b W=>a5b _ _ _ _ (h a b W)
theorem QU{V:AW}{q:Nat}{lv less:Value}{ls:Int×Int->Int×Int->Bool}{rq ra rb:List Value}(hl:IsLess1 less ls){a b:En}(hq:cellsAt V q=some (lv::less::rq))(ha:cellsAt V a.b=some (.int .i64 a.h::.int .i64 a.v.1::.int .i64 a.v.2::ra))(hb:cellsAt V b.b=some (.int .i64 b.h::.int .i64 b.v.1::.int .i64 b.v.2::rb)):
 lF (.func (.func 276) #[] #[]) [.pointer (some ⟨q,0,none⟩),qC a,qC b] V=some (.bool (sZ ls a b),V):=by
 refine aT rfl ?_ kR;unfold bY sZ;have q1:aR (.pointer (some ⟨q,1,none⟩)) V=some (less,V):=bU hq rfl;have a1:aR (.pointer (some ⟨a.b,0,none⟩)) V=some (.int .i64 a.h,V):=bU ha rfl;have a2:jV 2 (.pointer (some ⟨a.b,1,none⟩)) V=some (lG a.v,V):=qB ha rfl;have b1:aR (.pointer (some ⟨b.b,0,none⟩)) V=some (.int .i64 b.h,V):=bU hb rfl;have b2:jV 2 (.pointer (some ⟨b.b,1,none⟩)) V=some (lG b.v,V):=qB hb rfl;simp only[SX,aI,Nat.zero_add,q1,a2,b2,hl a.v b.v];cases ls a.v b.v;case true=>simp only[SX,aA];exact⟨by simp,.refl _⟩
 simp only[SX,aI,Nat.zero_add,q1,a2,b2,hl b.v a.v];cases ls b.v a.v;case true=>simp only[SX,aA];exact⟨by simp,.refl _⟩
 simp only[SX,aI,Nat.zero_add,a1,b1,aA];exact⟨by simp,.refl _⟩
theorem a6k:Tryz.prog.underlying 279=some (.slice 287):=by kernel_rfl
theorem a8K(c d:Bool)(l k:Nat)(W:AW):aD Tryz.prog .eql 279 c d (.slice none l k) (.slice none 0 0) W=some (.bool true,W):=by unfold aD iV gK;simp only[a6k];rfl
theorem a3s(c d:Bool)(a:Addr)(l k:Nat)(W:AW):aD Tryz.prog .eql 279 c d (.slice (some a) l k) (.slice none 0 0) W=some (.bool false,W):=by unfold aD iV gK;simp only[a6k]
theorem V8(W:AW):aX Tryz.prog 279 0 [] W=some (.slice (some ⟨W.next,0,none⟩) 0 0,W.add (.cells [])):=Eq.trans (by kernel_rfl) rfl
section
variable {P:Program} {W:AW}
theorem zH{ts:Array TypeId}{z bytes:Nat}(hk:l8 P ts z bytes=true){b o n c:Nat}{cs new:List Value}(hc:cellsAt W b=some cs)(hn:new=(cs.drop o).take (n*z))(hl:new.length=n*z)(h0:0<n)(h1:new.all Eng.one=true)
 {a:Addr}(hb:n<1099511627776)(hb2:(2*n+192)*bytes<=281474976710656):
 bE P W ts (.slice (some a) 0 0) (.slice (some ⟨b,o,none⟩) n c)=some (.slice (some ⟨W.next,0,none⟩) n (bQ+z),W.add (.cells new)):=by
 obtain⟨t,e,zv,k1,k2,k3,k4,k5,k6⟩:=rF hk;have hr:mW W b o (n*z)=some new:=by rw[gZ,hc];simp only;rw[if_pos (by rw[<-hn];exact hl),hn]
 have hr1:aW W (.slice (some ⟨b,o,none⟩) n c) (n*z)=some new:=by unfold aW;simp only;rw[if_neg (by have:=Nat.mul_pos h0 k5;omega),if_neg (by omega)];exact hr
 have hr2:aW W (.slice (some a) 0 0) (0*z)=some []:=by unfold aW;simp
 have hB:0<bQ:=by unfold bQ;omega
 have hB2:¬0=bQ+z:=by unfold bQ;omega
 unfold bE;simp only[k1,k2,k3,k4,if_true,Nat.zero_add,if_pos (And.intro k5 (And.intro k6 (And.intro hb hb2))),if_neg (show¬n=0 by omega),hr1,hr2,h1,if_neg hB2,if_pos hB,if_neg (show¬n<=0 by omega),AW.new_eq,List.nil_append]
theorem tX{ts:Array TypeId}{z bytes:Nat}(hk:l8 P ts z bytes=true){a a2:Option Addr}{l c c2:Nat}(h:l<=c)(hb:l<1099511627776)(hb2:(2*l+192)*bytes<=281474976710656):
 bE P W ts (.slice a l c) (.slice a2 0 c2)=some (.slice a l c,W):=by
 obtain⟨t,e,zv,k1,k2,k3,k4,k5,k6⟩:=rF hk;unfold bE;simp only[k1,k2,k3,k4,if_true,Nat.add_zero,if_pos (And.intro k5 (And.intro k6 (And.intro hb hb2))),if_pos h]
end
theorem ZY(n:Nat)(f:Nat->En):(fF n f).all Eng.one=true:=by unfold fF;rw[List.all_map,List.all_eq_true];intro i _;rfl
theorem ZT{W:AW}{n:Nat}{f:Nat->En}{lv:Value}{bl:Option Nat}(h:SlAt W n f lv bl)(hn:n<=10000):
 ∃v W',aL (.func (.func 273) #[] #[]) [lv] W=some (v,W')/\Le W W'/\((n=0/\∃a c,v=.slice a 0 c)\/(0<n/\∃b,W.next<=b/\b<W'.next/\v=.slice (some ⟨b,0,none⟩) n (bQ+1)/\W'.get b=some (.cells (fF n f)))):=by
 cases h with
 |nil h0=>
  have main:aG aL (.slice none 0 0) W=some (.slice none 0 0,W):=by unfold aG;simp only[SX,a8K]
  exact⟨_,W,by rw[aQ main,NB],.refl _,.inl ⟨h0,_,_,rfl⟩⟩
 |row bl junk h1 h2 h3=>
  have hc:cellsAt (W.add (.cells [])) bl=some (fF n f++junk):=by rw[NV _ h2];exact aZ h1
  by_cases h0:n=0
  ·subst h0;have e:=tX (P:=Tryz.prog) (W:=W.add (.cells [])) (ts:=#[279,279]) VS (a:=some ⟨W.next,0,none⟩) (a2:=some ⟨bl,0,none⟩) (l:=0) (c:=0) (c2:=bQ+1) (by omega) (by omega) (by omega);have main:aG aL (.slice (some ⟨bl,0,none⟩) 0 (bQ+1)) W=some (.slice (some ⟨W.next,0,none⟩) 0 0,W.add (.cells [])):=by unfold aG;simp only[SX,a3s,V8,e]
   refine⟨_,W.add (.cells []),by rw[aQ main,fD rfl],(Le.refl _).add _,.inl ⟨rfl,_,_,rfl⟩⟩
  ·have e:=zH (P:=Tryz.prog) (W:=W.add (.cells [])) (ts:=#[279,279]) VS (b:=bl) (o:=0) (n:=n) (c:=bQ+1) (new:=fF n f) hc (by rw[List.drop_zero,Nat.mul_one,List.take_append_of_le_length (by rw[dM];omega),List.take_of_length_le (by rw[dM];omega)]) (by rw[dM];omega) (by omega) (ZY n f) (a:=⟨W.next,0,none⟩) (by omega) (by omega);have main:aG aL (.slice (some ⟨bl,0,none⟩) n (bQ+1)) W=some (.slice (some ⟨W.next+1,0,none⟩) n (bQ+1),(W.add (.cells [])).add (.cells (fF n f))):=by unfold aG;simp only[SX,a3s,V8,e,AW.add_next]
   refine⟨_,_,by rw[aQ main,fD rfl],((Le.refl _).add _).add _,.inr ⟨by omega,W.next+1,by omega,by simp only[AW.add_next];omega,rfl,?_⟩⟩;have:=(W.add (.cells [])).get_add (.cells (fF n f));rw[AW.add_next]at this;exact this
def sK(a b:Int):Int:=if a<b then -1 else if b<a then 1 else 0
theorem FH(a:Int)(W:AW):lF (.func (.func 191) #[] #[]) [.int .i64 a] W=some (.bool false,W):=by refine aT rfl ?_ xF;unfold oM;simp only[SX,decide_true,Bool.not_true,aA];exact⟨trivial,.refl _⟩
theorem RP(a:Int)(W:AW):lF (.func (.func 192) #[] #[]) [.int .i64 a] W=some (.bool false,W):=by refine aT rfl ?_ C8;unfold sG;simp only[SX,decide_true,Bool.not_true,aA];exact⟨trivial,.refl _⟩
theorem QA(a b:Int)(W:AW):lF (.func (.func 134) #[] #[]) [.int .i64 a,.int .i64 b] W=some (.int .i64 (sK a b),W):=by
 refine aT rfl ?_ tY;unfold mG sK;by_cases h1:a<b
 ·simp only[SX,FH,h1,if_true,aA];exact⟨trivial,.refl _⟩
 ·by_cases h2:b<a
  ·simp only[SX,FH,h1,h2,if_true,if_false,aA];exact⟨trivial,.refl _⟩
  ·simp only[SX,FH,h1,h2,if_false,aA];exact⟨trivial,.refl _⟩
theorem UY(a b:Int)(W:AW):lF (.func (.func 135) #[] #[]) [.int .i64 a,.int .i64 b] W=some (.int .i64 (sK a b),W):=by
 refine aT rfl ?_ wR;unfold pF sK;by_cases h1:a<b
 ·simp only[SX,RP,h1,if_true,aA];exact⟨trivial,.refl _⟩
 ·by_cases h2:b<a
  ·simp only[SX,RP,h1,h2,if_true,if_false,aA];exact⟨trivial,.refl _⟩
  ·simp only[SX,RP,h1,h2,if_false,aA];exact⟨trivial,.refl _⟩
theorem a3H{W:AW}{v:Value}{a b:Int}(h:Ints W v [a,b]):lF (.func (.func 133) #[] #[]) [v] W=some (.int .i64 (if a=0 then b else a),W):=by
 refine aT rfl ?_ J7;unfold AJ;simp only[SX,h.len LP];refine bR 2 (by omega) (λk R W'=>W'=W/\R 6=v/\R 7=.int .i64 2/\R 8=.int .i64 (k:Int)/\R 3=.int .i64 0/\(0<k->a=0)/\(1<k->b=0))
  (λr=>(r.1=.exit 0/\r.2.2=W/\r.2.1 3=.int .i64 0/\a=0/\b=0)\/(r.1=.ret/\r.2.2=W/\r.2.1 2=.int .i64 (if a=0 then b else a))) ⟨rfl,rfl,rfl,rfl,rfl,by omega,by omega⟩ ?_ ?_ ?_
 ·rintro k R W' hk ⟨rfl,r6,r7,r8,r3,h0,h1⟩;unfold rV;obtain⟨p,i1,i2⟩:=h.get (i:=k) (by simpa using hk);have t1:((k:Int)<2):=by omega
  have t2:=λW'=>bA (P:=Tryz.prog) (W:=W') (t:=3) (c:=false) (d:=true) (a:=(k:Int)) (b:=1) (by omega) (by omega)
  have e3:((k+1:Nat):Int)=(k:Int)+1:=by omega
  have hk2:k=0\/k=1:=by omega
  have hel:([a,b]:List Int)[k]'(by simpa using hk)=if k=0 then a else b:=by rcases hk2 with rfl|rfl<;>rfl
  rw[hel]at i2;by_cases hz:(if k=0 then a else b)=0
  ·simp only[SX,r6,r7,r8,r3,t1,i1,i2 _ (.refl _),hz,t2,aA];refine .inl ⟨trivial,trivial,r6,r7,by rw[e3];rfl,r3,λ_=>?_,λ_=>?_⟩
   ·rcases hk2 with rfl|rfl
    ·simpa using hz
    ·exact h0 (by omega)
   ·have:k=1:=by omega
    subst this;simpa using hz
  ·simp only[SX,r6,r7,r8,r3,t1,i1,i2 _ (.refl _),hz,aA];refine .inr ⟨by simp,.inr ⟨trivial,trivial,?_⟩⟩;show Value.int .i64 (if k=0 then a else b)=_;rcases hk2 with rfl|rfl
   ·have hz':¬a=0:=by simpa using hz
    rw[if_pos rfl,if_neg hz']
   ·rw[if_neg (by omega),if_pos (h0 (by omega))]
 ·rintro R W' ⟨rfl,r6,r7,r8,r3,h0,h1⟩;unfold rV;have t1:¬(((2:Nat):Int)<2):=by omega
  simp only[SX,r6,r7,r8,t1,decide_false,aA];exact⟨by simp,.inl ⟨trivial,trivial,r3,h0 (by omega),h1 (by omega)⟩⟩
 ·rintro⟨x,R,W'⟩ hq;simp only at hq;rcases hq with⟨rfl,rfl,r3,rfl,rfl⟩|⟨rfl,rfl,r2⟩
  ·simp only[SX,r3,aA];exact⟨by simp,.refl _⟩
  ·simp only[SX,r2,aA];exact⟨trivial,.refl _⟩
def lQ(a b:Int×Int):Bool:=decide (a.2<b.2)||(decide (a.2=b.2)&&decide (a.1<b.1))
theorem GQ:Ord (sZ lQ):=by
 refine⟨λa b h=>?_,λa b c h1 h2=>?_⟩
 ·simp only[sZ,lQ,Bool.or_eq_true,Bool.and_eq_true,Bool.not_eq_true',decide_eq_true_eq,decide_eq_false_iff_not,Bool.or_eq_false_iff,Bool.and_eq_false_imp]at *;omega
 ·simp only[sZ,lQ,Bool.or_eq_true,Bool.and_eq_true,Bool.not_eq_true',decide_eq_true_eq,decide_eq_false_iff_not,Bool.or_eq_false_iff,Bool.and_eq_false_imp]at *;omega
theorem a6S(a b:Int)(W:AW):aX Tryz.prog 69 2 [(0,.int .i64 a),(1,.int .i64 b)] W=some (.slice (some ⟨W.next,0,none⟩) 2 2,W.add (.cells [.int .i64 a,.int .i64 b])):=Eq.trans (by kernel_rfl) rfl
theorem hoLess1_ok:IsLess1 (.func (.func 132) #[] #[]) lQ:=λa b W=>by
 refine aT rfl ?_ DN;unfold uL;have oB:∀(v:Int×Int) W,eH (lG v) W=some (.pointer (some ⟨W.next,0,none⟩),W.add (.cells [.int .i64 v.1,.int .i64 v.2])):=λv W=>fH _
 generalize hW2:(W.add (.cells [.int .i64 a.1,.int .i64 a.2])).add (.cells [.int .i64 b.1,.int .i64 b.2])=W2;have n1:(W.add (.cells [.int .i64 a.1,.int .i64 a.2])).next=W.next+1:=AW.add_next _ _;have xa:W2.get W.next=some (.cells [.int .i64 a.1,.int .i64 a.2]):=by rw[<-hW2,AW.get_add_ne _ _ (by rw[n1];omega)];exact AW.get_add _ _
 have xb:W2.get (W.next+1)=some (.cells [.int .i64 b.1,.int .i64 b.2]):=by rw[<-hW2];have:=(W.add (.cells [.int .i64 a.1,.int .i64 a.2])).get_add (.cells [.int .i64 b.1,.int .i64 b.2]);rwa [n1]at this
 have l2:Le W W2:=by rw[<-hW2];exact((Le.refl _).add _).add _
 have hI:∀x y:Int,Ints (W2.add (.cells [.int .i64 x,.int .i64 y])) (.slice (some ⟨W2.next,0,none⟩) 2 2) [x,y]:=λx y=>QX [x,y] 2 W2
 have ho:=a3H (hI (sK a.2 b.2) (sK a.1 b.1));simp only[SX,oB,n1,hW2,Nat.zero_add,lJ (o:=1) (dB xa) rfl,lJ (o:=1) (dB xb) rfl,lJ (o:=0) (dB xa) rfl,lJ (o:=0) (dB xb) rfl,QA,IB,KC,Bool.and_self,UY,a6S,ho,aA];refine⟨?_,l2.add _⟩;congr 1;unfold lQ sK;rw[Bool.eq_iff_iff];simp only[decide_eq_true_eq,Bool.or_eq_true,Bool.and_eq_true];repeat' split
 all_goals omega
theorem XX:x8 (.func (.func 132) #[] #[]) lQ:=hoLess1_ok.up
end Go.Proofs.YtnigceddndemkaaGreatDoor.Ho
namespace Go.Proofs.YtnigceddndemkaaGreatDoor
open Go Go.Eng
set_option maxRecDepth 100000
structure SeT where
 st:Int
 ow:Int
 dl:Int
 se:Int
 ep:Int
abbrev nI(x:SeT):List Value:=[.int .i64 x.st,.int .u32 x.ow,.int .i64 x.dl,.int .u64 x.se,.int .u64 x.ep]
abbrev GX(x:SeT):Value:=.agg #[.int .i64 x.st,.int .u32 x.ow,.int .i64 x.dl,.int .u64 x.se,.int .u64 x.ep]
def se0:SeT:=⟨0,0,0,0,0⟩
theorem a4h{b o:Nat}{cs:List Value}{x:Value}{W:AW}(h:W.get b=some (.cells cs))(hv:cs[o]? =some x):aR (.pointer (some ⟨b,o,none⟩)) W=some (x,W):=bU (aZ h) hv
section
variable {W:AW} {b:Nat} {x:SeT}
theorem qI(h:W.get b=some (.cells (nI x))):aR (.pointer (some ⟨b,0,none⟩)) W=some (.int .i64 x.st,W):=a4h h rfl
theorem SL(h:W.get b=some (.cells (nI x))):aR (.pointer (some ⟨b,1,none⟩)) W=some (.int .u32 x.ow,W):=a4h h rfl
theorem rM(h:W.get b=some (.cells (nI x))):aR (.pointer (some ⟨b,2,none⟩)) W=some (.int .i64 x.dl,W):=a4h h rfl
theorem WC(h:W.get b=some (.cells (nI x))):jV 5 (.pointer (some ⟨b,0,none⟩)) W=some (GX x,W):=qB (aZ h) rfl
theorem a7G{z:SeT}(h:W.get b=some (.cells (nI z))):mY 5 (.pointer (some ⟨b,0,none⟩)) (GX x) W=some (undef,W.put b (.cells (nI x))):=H5 (n:=5) (o:=0) (v:=GX x) h rfl (Nat.le_refl _) rfl
end
theorem a3x(x:SeT)(W:AW):eH (GX x) W=some (.pointer (some ⟨W.next,0,none⟩),W.add (.cells (nI x))):=fH _
theorem a8p(W:AW):dP Tryz.prog 38 W=some (.pointer (some ⟨W.next,0,none⟩),W.add (.cells (nI se0))):=Eq.trans (by kernel_rfl) rfl
def NL(x:SeT):Int:=if x.st=1 then(if x.dl<0 then 6 else 0)else if x.st=0 then(if x.ow=0 then(if x.dl=0 then 0 else 6)else 6)else if x.st=2 then(if x.dl=0 then 0 else 6)else 6
theorem a1H{x:SeT}(h:x.st=1):NL x=if x.dl<0 then 6 else 0:=by unfold NL;rw[if_pos h]
theorem RZ(x:SeT)(W:AW):aL (.func (.func 70) #[] #[]) [GX x] W=some (.int .i64 (NL x),W):=by
 refine aT rfl ?_ H9;unfold D9;have hg:(W.add (.cells (nI x))).get W.next=some (.cells (nI x)):=AW.get_add _ _;have hle:Le W (W.add (.cells (nI x))):=(Le.refl _).add _;simp only[SX,a3x,Nat.zero_add];generalize W.add (.cells (nI x))=W1 at *;unfold NL;by_cases c1:x.st=1
 ·have d1:=decide_eq_true c1;rw[if_pos c1];by_cases c2:x.dl<0
  ·have d2:=decide_eq_true c2;simp only[SX,rM hg,qI hg,d1,d2,if_pos c2,aA];exact⟨trivial,hle⟩
  ·have d2:=decide_eq_false c2;simp only[SX,rM hg,qI hg,d1,d2,if_neg c2,aA];exact⟨trivial,hle⟩
 have d1:=decide_eq_false c1;rw[if_neg c1];by_cases c0:x.st=0
 ·have d0:=decide_eq_true c0;rw[if_pos c0];by_cases c2:x.ow=0
  ·have d2:=decide_eq_true c2;rw[if_pos c2];by_cases c3:x.dl=0
   ·have d3:=decide_eq_true c3;simp only[SX,rM hg,qI hg,d1,d0,SL hg,d2,d3,Bool.not_true,if_pos c3,aA];exact⟨trivial,hle⟩
   ·have d3:=decide_eq_false c3;simp only[SX,rM hg,qI hg,d1,d0,SL hg,d2,d3,Bool.not_true,Bool.not_false,if_neg c3,aA];exact⟨trivial,hle⟩
  ·have d2:=decide_eq_false c2;rw[if_neg c2];simp only[SX,rM hg,qI hg,d1,d0,SL hg,d2,Bool.not_false,aA];exact⟨trivial,hle⟩
 have d0:=decide_eq_false c0;rw[if_neg c0];by_cases c2:x.st=2
 ·have d2:=decide_eq_true c2;rw[if_pos c2];by_cases c3:x.dl=0
  ·have d3:=decide_eq_true c3;simp only[SX,rM hg,qI hg,d1,d0,d2,d3,Bool.not_true,if_pos c3,aA];exact⟨trivial,hle⟩
  ·have d3:=decide_eq_false c3;simp only[SX,rM hg,qI hg,d1,d0,d2,d3,Bool.not_false,if_neg c3,aA];exact⟨trivial,hle⟩
 ·have d2:=decide_eq_false c2;rw[if_neg c2];simp only[SX,rM hg,qI hg,d1,d0,d2,aA];exact⟨trivial,hle⟩
def tmE(x:SeT)(t:Int):Int:=if NL x=0 then(if t<0 then 7 else 0)else NL x
def inE(x:SeT)(w:Int):Int:=if NL x=0 then(if x.st=w then 0 else 15)else NL x
def a6q(x:SeT):SeT:=⟨0,0,0,x.se,x.ep⟩
theorem IQ:bJ undef false=false:=Eq.trans rfl rfl
theorem IM:bJ undef true=false:=Eq.trans rfl rfl
def a8I(x:SeT)(now:Int):Int:=if tmE x now≠0 then tmE x now else if inE x 1≠0 then inE x 1 else if x.dl<=now then 0 else 9
def a8q(x:SeT)(now:Int):SeT:=if a8I x now=0 then a6q x else x
end Go.Proofs.YtnigceddndemkaaGreatDoor
namespace Go.Proofs.YtnigceddndemkaaGreatDoor.Ho
open Go Go.Eng Go.Hp
set_option maxRecDepth 100000
theorem u35:Tryz.prog.underlying 140=some (.pointer 220):=by kernel_rfl
theorem a3w(a:Addr)(c d:Bool)(W:AW):aD Tryz.prog .eql 140 c d (.pointer (some a)) (.pointer none) W=some (.bool false,W):=by unfold aD iV gK;simp only[u35]
theorem a7k:Tryz.prog.underlying 218=some (.map 3 2):=by kernel_rfl
theorem u3:Tryz.prog.underlying 3=some (.int .i64):=by kernel_rfl
theorem z2:kK Tryz.prog 2=some (.int .i64 0):=by kernel_rfl
theorem a6p(W:AW):rZ Tryz.prog 218 none W=some (.map (some W.next),W.add (.map [] 0)):=rfl
theorem a6H(s:Int)(q m:Nat)(W:AW):iO Tryz.prog 220 [(0,.int .i64 s),(1,qV q),(2,.map (some m))] W=some (.agg #[.int .i64 s,qV q,.map (some m)],W):=Eq.trans (by kernel_rfl) rfl
theorem a8m(s d:Int)(W:AW):iO Tryz.prog 42 [(0,.int .i64 s),(1,.int .i64 d)] W=some (lG (s,d),W):=Eq.trans (by kernel_rfl) rfl
abbrev hF:Value:=.func (.func 132) #[] #[]
structure HS (W:AW) (In:Nat->Prop) (H q mh hm:Nat) (seats:Int) (nx:Int) (n:Nat) (f:Nat->En):Prop where
 hc:W.get H=some (.cells [.int .i64 seats,qV q,.map (some hm)])
 hl:H<W.next
 ml:hm<W.next
 ne:H≠hm
 iH:In H
 iM:In hm
 qs:QS W (λb=>In b/\b≠H/\b≠hm) q mh hF lQ nx n f
 mp:∃m,MapV W hm m n/\(∀i,i<n->m (f i).v.1=some (.int .i64 (f i).h))/\∀k v,m k=some v->∃i,i<n/\(f i).v.1=k/\v=.int .i64 (f i).h
 ok:∀i,i<n->0<=(f i).v.1/\(f i).v.1<seats/\0<=(f i).v.2
 sz:1<=seats/\seats<=4096
abbrev hP(H:Nat):Value:=.pointer (some ⟨H,0,none⟩)
def xC(n:Nat)(f:Nat->En):List (Int×Int):=(all n f).map (·.v)
theorem GK{n:Nat}{f:Nat->En}{x:Int×Int}:x∈xC n f<->∃i,i<n/\(f i).v=x:=by
 unfold xC;constructor
 ·intro h;obtain⟨e,he,rfl⟩:=List.mem_map.1 h;obtain⟨i,hi,rfl⟩:=dR.1 he;exact⟨i,hi,rfl⟩
 ·rintro⟨i,hi,rfl⟩;exact List.mem_map.2 ⟨f i,dR.2 ⟨i,hi,rfl⟩,rfl⟩
theorem OE(n:Nat)(f:Nat->En):(xC n f).length=n:=by unfold xC;rw[List.length_map,vH]
theorem QS.grown{W W':AW}{In In':Nat->Prop}{q mh mh':Nat}{less less':Value}{ls ls':Int×Int->Int×Int->Bool}{nx nx':Int}{n:Nat}{f g:Nat->En}(h:QS W In q mh less ls nx n f)(h':QS W' In' q mh' less' ls' nx' (n+1) g):W'.get q≠W.get q:=by obtain⟨⟨lv,bl,k1,-⟩,-⟩:=h;obtain⟨⟨lv',bl',k1',-⟩,-⟩:=h';rw[k1.qc,k1'.qc];intro e;injection e with e;injection e with e;injection e with e _;exact SlAt.ne_succ k1'.pile.sl k1.pile.sl e.symm
section
variable {W:AW} {In:Nat->Prop} {H q mh hm:Nat} {seats nx:Int} {n:Nat} {f:Nat->En}
theorem HS.keep{W':AW}{In':Nat->Prop}(h:HS W In H q mh hm seats nx n f)(hn:W.next<=W'.next)(hg:∀b,b<W.next->In b->W'.get b=W.get b)(hi:∀b,b<W.next->In b->In' b):HS W' In' H q mh hm seats nx n f:=by obtain⟨hc,hl,ml,ne,iH,iM,qs,⟨m,m1,m2⟩,ok,sz⟩:=h;exact⟨(hg H hl iH).trans hc,by omega,by omega,ne,hi H hl iH,hi hm ml iM,qs.keep hn (λb hb x=>hg b hb x.1) λb hb x=>⟨hi b hb x.1,x.2⟩,⟨m,m1.keep (hg hm ml iM),m2⟩,ok,sz⟩
theorem HS.l0(h:HS W In H q mh hm seats nx n f):aR (.pointer (some ⟨H,0,none⟩)) W=some (.int .i64 seats,W):=lJ (dB h.hc) rfl
theorem HS.l1(h:HS W In H q mh hm seats nx n f):aR (.pointer (some ⟨H,1,none⟩)) W=some (qV q,W):=lJ (dB h.hc) rfl
theorem HS.l2(h:HS W In H q mh hm seats nx n f):aR (.pointer (some ⟨H,2,none⟩)) W=some (.map (some hm),W):=lJ (dB h.hc) rfl
theorem a3m{s:Int}(hs:1<=s/\s<=4096)(hi:∀b,W.next<=b->In b):∃W' H q mh hm g,aL (.func (.func 73) #[] #[]) [.int .i64 s] W=some (.tuple #[hP H,.int .i64 0],W')/\HS W' In H q mh hm s 1 0 g/\Gr W W' In:=by
 obtain⟨W1,q,mh,e1,e2,e3⟩:=a4T (In:=λb=>W.next<=b) (W:=W) (λb hb=>hb) 132 lQ (λ_=>⟨0,0,(0,0)⟩);have n1:=e3.next;generalize hW2:W1.add (.map [] 0)=W2;have n2:W2.next=W1.next+1:=by rw[<-hW2,AW.add_next]
 have m2:MapV W2 W1.next (λ_=>none) 0:=by rw[<-hW2];exact mapV_new
 have oB:eH (.agg #[.int .i64 s,qV q,.map (some W1.next)]) W2=some (.pointer (some ⟨W2.next,0,none⟩),W2.add (.cells [.int .i64 s,qV q,.map (some W1.next)])):=fH _;have t1:¬s<1:=by omega
 have t2:¬4096<s:=by omega
 have main:BC aL (.int .i64 s) W=some (.tuple #[hP W2.next,.int .i64 0],W2.add (.cells [.int .i64 s,qV q,.map (some W1.next)])):=by unfold BC;simp only[SX,t1,t2,decide_false,e1,a6p,hW2,a6H,oB]
 have g3:∀b,b<W1.next->(W2.add (.cells [.int .i64 s,qV q,.map (some W1.next)])).get b=W1.get b:=λb hb=>by rw[AW.get_add_ne _ _ (by omega),<-hW2,AW.get_add_ne _ _ (by omega)]
 refine⟨_,W2.next,q,mh,W1.next,λ_=>⟨0,0,(0,0)⟩,by rw[N9 main,fD rfl],⟨AW.get_add _ _,by rw[AW.add_next];omega,by rw[AW.add_next];omega,by omega,hi _ (by omega),hi _ (by omega),e2.keep (by rw[AW.add_next];omega) (λb hb _=>g3 b hb) λb hb h=>⟨hi b h,by omega,by omega⟩,⟨_,m2.keep (AW.get_add_ne _ _ (by omega)),λi hi=>by omega,λk v hk=>by cases hk⟩,λi hi=>by omega,hs⟩,by rw[AW.add_next];omega,λb hb _=>?_⟩;rw[g3 b (by omega)];exact e3.get b hb (by omega)
def GH(seats s t:Int):Bool:=decide (s<0)||decide (seats<=s)||decide (t<0)
theorem a4B(h:HS W In H q mh hm seats nx n f)(s t:Int):aL (.func (.func 193) #[] #[]) [hP H,.int .i64 s,.int .i64 t] W=some (.bool (GH seats s t),W):=by
 refine aT rfl ?_ xJ;unfold sW GH;by_cases h1:s<0
 ·simp only[SX,h1,decide_true,Bool.true_or,aA];exact⟨trivial,.refl _⟩
 ·by_cases h2:seats<=s
  ·simp only[SX,h1,h2,aI,Nat.zero_add,h.l0,decide_true,decide_false,Bool.false_or,Bool.true_or,aA];exact⟨trivial,.refl _⟩
  ·simp only[SX,h1,h2,aI,Nat.zero_add,h.l0,decide_false,Bool.false_or,aA];exact⟨trivial,.refl _⟩
theorem a0l(h:HS W In H q mh hm seats nx n f){s t:Int}(hb:GH seats s t=false)(hs:∀i,i<n->(f i).v.1≠s):aL (.func (.func 137) #[] #[]) [hP H,.int .i64 s,.int .i64 t] W=some (.tuple #[.int .i64 0,.int .i64 4],W):=by
 refine aT rfl ?_ vY;unfold qY;have e0:¬seats=0:=by have:=h.sz;omega
 obtain⟨m,m1,m2,m3⟩:=h.mp;have hn:m s=none:=by
  cases hx:m s with
  |none=>rfl
  |some v=>obtain⟨i,hi,e,-⟩:=m3 s v hx;exact absurd e (hs i hi)
 have g:=Y1 m1 a7k u3 z2 s;rw[hn]at g;simp only[SX,a3w,aI,Nat.zero_add,h.l0,e0,decide_false,a4B h,hb,h.l2,g,Option.getD_none,Option.isSome_none,aA];exact⟨trivial,.refl _⟩
theorem a2D(h:HS W In H q mh hm seats nx n f){s t:Int}(hb:GH seats s t=false)(hs:∀i,i<n->(f i).v.1≠s)(hn:n<5000)(hnx:nx<1000000000000000)(hi:∀b,W.next<=b->In b):
 ∃W' g,aL (.func (.func 74) #[] #[]) [hP H,.int .i64 s,.int .i64 t] W=some (.int .i64 0,W')/\HS W' In H q mh hm seats (nx+1) (n+1) g/\(xC (n+1) g).Perm ((s,t)::xC n f)/\Gr W W' In:=by
 have main:Ok (nL aL (hP H) (.int .i64 s) (.int .i64 t) W) λr=>r.1=.int .i64 0/\(∃g,HS r.2 In H q mh hm seats (nx+1) (n+1) g/\(xC (n+1) g).Perm ((s,t)::xC n f)/\Gr W r.2 In):=by
  have hW:=h;obtain⟨hc,hl,ml,ne,iH,iM,qs,⟨m,m1,m2,m3⟩,ok,sz⟩:=h;obtain⟨W1,g,p1,p2,p3,p4⟩:=a1u GQ XX qs hn hnx (λb hb=>⟨hi b hb,by omega,by omega⟩) (s,t);have n1:=p4.next;have hc1:W1.get H=some (.cells [.int .i64 seats,qV q,.map (some hm)]):=(p4.get H hl (by simp)).trans hc;have m1':MapV W1 hm m n:=m1.keep (p4.get hm ml (by simp));obtain⟨es,c,d1,d2⟩:=OM m1' a7k u3 s (.int .i64 nx);have hmn:m s=none:=by
   cases hx:m s with
   |none=>rfl
   |some v=>obtain⟨i,hi,e,-⟩:=m3 s v hx;exact absurd e (hs i hi)
  rw[hmn]at d2;simp only[Option.isSome_none,Bool.false_eq_true,if_false]at d2;generalize hW2:W1.put hm (.map es c)=W2 at d1 d2;have g2:∀b,b≠hm->W2.get b=W1.get b:=λb hb=>by rw[<-hW2];exact AW.get_put_ne _ _ (Ne.symm hb)
  have n2:W2.next=W1.next:=by rw[<-hW2,AW.put_next]
  have hmem:∀i,i<n+1->g i=⟨W.next+1,nx,(s,t)⟩\/∃k,k<n/\f k=g i:=λi hi=>by
   rcases List.mem_cons.1 (p3.mem_iff.1 (dR.2 ⟨i,hi,rfl⟩))with e|e
   ·exact .inl e
   ·exact .inr (dR.1 e)
  have hbb:0<=s/\s<seats/\0<=t:=by unfold GH at hb;simp only[Bool.or_eq_false_iff,decide_eq_false_iff_not]at hb;omega
  unfold nL;have e0:¬(4:Int)=0:=by omega
  simp only[SX,a0l hW hb hs,e0,decide_false,aI,Nat.zero_add,hW.l1,a8m,p1,lJ (o:=2) (dB hc1) rfl,d1,aA];refine⟨trivial,g,⟨(g2 H ne).trans hc1,by omega,by omega,ne,iH,iM,p2.keep (by omega) (λb hb hx=>g2 b hx.2.2) λb _ hx=>hx,⟨_,d2,λi hi'=>?_,λk v hk=>?_⟩,λi hi'=>?_,sz⟩,?_,by omega,λb hb' hni=>?_⟩
  ·rcases hmem i hi' with e|⟨k,hk,e⟩
   ·rw[e,if_pos rfl]
   ·rw[<-e,if_neg (hs k hk)];exact m2 k hk
  ·by_cases hk0:k=s
   ·rw[if_pos hk0]at hk;injection hk with hk;obtain⟨j,hj,ej⟩:=dR.1 (p3.mem_iff.2 (List.mem_cons_self ..));exact⟨j,hj,by rw[ej,hk0],by rw[ej,<-hk]⟩
   ·rw[if_neg hk0]at hk;obtain⟨i,hi',x1,x2⟩:=m3 k v hk;obtain⟨i2,hi2,x3⟩:=dR.1 (p3.mem_iff.2 (List.mem_cons_of_mem _ (dR.2 ⟨i,hi',rfl⟩)));exact⟨i2,hi2,by rw[x3];exact x1,by rw[x3];exact x2⟩
  ·rcases hmem i hi' with e|⟨k,hk,e⟩
   ·rw[e];exact hbb
   ·rw[<-e];exact ok k hk
  ·exact p3.map (·.v)
  ·rw[g2 b (λe=>hni (by rw[e];exact iM))];exact p4.get b hb' λx=>hni x.1
 obtain⟨⟨r,W'⟩,h1,h2,g,h3,h4,h5⟩:=main;simp only at h2 h3 h4 h5;subst h2;rcases MB (W:=W) (W':=W') (.int .i64 0)with hg|⟨hg,hle⟩
 ·exact⟨W',g,by rw[xH h1,hg],h3,h4,h5⟩
 ·have hql:q<W.next:=by obtain⟨⟨lv,bl,k1,-⟩,-⟩:=h.qs;exact k1.lt
  exact absurd (hle.get q hql) (QS.grown h.qs h3.qs)
def a1I(n:Nat)(f:Nat->En):Int×Int:=if n=0 then(0,0)else(f 0).v
end
end Go.Proofs.YtnigceddndemkaaGreatDoor.Ho
namespace Go.Proofs.YtnigceddndemkaaGreatDoor
open Go Go.Eng Go.Hp
set_option maxRecDepth 100000
def a08(cs:List Value)(p:Nat)(x:Int×Int):Prop:=cs[p]? =some (.int .i64 x.1)/\cs[p+1]? =some (.int .i64 x.2)
abbrev Items(W:AW)(v:Value)(l:List (Int×Int)):Prop:=Row W 2 a08 v l
theorem YQ{α:Type}{lt:α->α->Bool}(o:Ord lt){a b c:α}(h1:lt a b=true)(h2:lt b c=true):lt a c=true:=by
 cases h:lt a c with
 |true=>rfl
 |false=>have:=o.neg b c a (o.asym _ _ h2) h;rw[h1]at this;cases this
section
variable {q:Nat} {lv less c2 c3:Value} {n:Nat} {f:Nat->En} {bl:Option Nat} {ls:Int->Int->Bool}
end
theorem Lst.low{α:Type}{lo lo' z:Nat}{W:AW}{f:α->List Value}{v:Value}{l:List α}(h:Lst lo W z f v l)(hl:lo'<=lo):Lst lo' W z f v l:=by
 rcases h with h|⟨h0,B,h1,h2⟩
 ·exact .inl h
 ·exact .inr ⟨h0,B,by omega,h2⟩
theorem a1B{α:Type}{o t:Option (Value×AW)}{W:AW}{lo z:Nat}{f:α->List Value}{l:List α}(h:Ok t λr=>Le W r.2/\Lst lo r.2 z f r.1 l)(hom:∀{r},t=some r->o=some (gc W r)):∃v W2,o=some (v,W2)/\Le W W2/\Lst lo W2 z f v l:=by
 obtain⟨⟨v,W'⟩,h1,h2,h3⟩:=h;rcases h3 with⟨rfl,rfl⟩|⟨h0,B,h4,h5,rfl,h6⟩
 ·rcases MB (W:=W) (W':=W') (.slice none 0 0)with hg|⟨hg,hle⟩
  ·exact⟨_,W',by rw[hom h1];exact congrArg some hg,h2,.nil _ _ _ _⟩
  ·exact⟨_,W,by rw[hom h1];exact congrArg some hg,.refl _,.nil _ _ _ _⟩
 ·exact⟨_,W',by rw[hom h1,fD rfl],h2,.inr ⟨h0,B,h4,h5,rfl,h6⟩⟩
section
variable {W:AW} {In:Nat->Prop} {q mh:Nat} {less:Value} {ls:Int->Int->Bool} {nx:Int} {n:Nat} {f:Nat->En}
end
section
variable {W:AW} {In:Nat->Prop} {q mh:Nat} {less:Value} {ls:Int->Int->Bool} {nx:Int} {n:Nat} {f:Nat->En}
end
section
variable {W:AW} {In:Nat->Prop} {q mh:Nat} {less:Value} {ls:Int->Int->Bool} {nx:Int} {n:Nat} {f:Nat->En}
end
theorem a1P{α:Type}{P:Program}{W:AW}{ts:Array TypeId}{z bytes lo:Nat}{f:α->List Value}{v:Value}{l:List α}{a:α}(hk:l8 P ts z bytes=true)(hf:∀a,(f a).length=z)(h1:∀a,(f a).all Eng.one=true)
 (h:Lst lo W z f v l){b c:Nat}(hc:cellsAt W b=some (f a))(hb:l.length+1<1099511627776)(hb2:(2*(l.length+1)+192)*bytes<=281474976710656)(hlo:lo<=W.next):
 ∃v' W',bE P W ts v (.slice (some ⟨b,0,none⟩) 1 c)=some (v',W')/\Lst lo W' z f v' (l++[a])/\W.next<=W'.next/\∀b,b<lo->W'.get b=W.get b:=by
 obtain⟨v',W',k1,k2,k3,k4⟩:=h.push hk hf h1 hc hb hb2 hlo;refine⟨v',W',k1,k2,k3,λb hb=>?_⟩;have:=k4 ⟨W.heap,lo⟩ ⟨hlo,λ_ _=>rfl⟩ (Nat.le_refl _);exact this.get b hb
theorem YH{α:Type}{lo z:Nat}{W:AW}{f:α->List Value}{v:Value}{l:List α}(h:Lst lo W z f v l):∃a c,v=.slice a l.length c:=by rcases h with⟨rfl,rfl⟩|⟨_,B,_,_,rfl,_⟩<;>exact⟨_,_,rfl⟩
theorem UO{α:Type}{lo z:Nat}{W W':AW}{f:α->List Value}{v:Value}{l:List α}(h:Lst lo W z f v l)(hn:∀b,lo<=b->b<W.next->b<W'.next/\W'.get b=W.get b):Lst lo W' z f v l:=by
 rcases h with h|⟨h0,B,b1,b2,e,b3⟩
 ·exact .inl h
 ·exact .inr ⟨h0,B,b1,(hn B b1 b2).1,e,(hn B b1 b2).2.trans b3⟩
section
variable {W:AW} {In:Nat->Prop} {q mh:Nat} {less:Value} {ls:Int->Int->Bool} {nx:Int} {n:Nat} {f:Nat->En}
end
end Go.Proofs.YtnigceddndemkaaGreatDoor
namespace Go.Proofs.YtnigceddndemkaaGreatDoor.Ho
open Go Go.Eng Go.Hp
set_option maxRecDepth 100000
def oK(x:Int×Int):List Value:=[.int .i64 x.1,.int .i64 x.2]
def a3X(cs:List Value)(p:Nat)(x:Int×Int):Prop:=cs[p]? =some (.int .i64 x.1)/\cs[p+1]? =some (.int .i64 x.2)
abbrev HoL(W:AW)(v:Value)(l:List (Int×Int)):Prop:=Row W 2 a3X v l
theorem kX(x:Int×Int):(oK x).length=2:=rfl
theorem LY(x:Int×Int):(oK x).all Eng.one=true:=rfl
theorem a3T:l8 Tryz.prog #[32,32] 2 16=true:=by kernel_rfl
theorem a8C(a b:Int)(W:AW):aX Tryz.prog 32 1 [(0,.agg #[.int .i64 a,.int .i64 b])] W=some (.slice (some ⟨W.next,0,none⟩) 1 1,W.add (.cells [.int .i64 a,.int .i64 b])):=Eq.trans (by kernel_rfl) rfl
theorem p9:((#[32]:Array TypeId)[0]?).bind Tryz.prog.underlying=some (.slice 42):=by kernel_rfl
theorem HoL.get{W:AW}{v:Value}{l:List (Int×Int)}(h:HoL W v l){i:Nat}(hi:i<l.length):
 ∃b o,(∀W' k,jS 2 v (.int k (i:Int)) W'=some (.pointer (some ⟨b,o,none⟩),W'))/\b<W.next/\∀W',W'.get b=W.get b->jV 2 (.pointer (some ⟨b,o,none⟩)) W'=some (lG l[i],W')/\aR (.pointer (some ⟨b,o,none⟩)) W'=some (.int .i64 l[i].1,W')/\aR (.pointer (some ⟨b,o+1,none⟩)) W'=some (.int .i64 l[i].2,W'):=by
 obtain⟨b,o,cs,h1,h2,h3,h4,h5⟩:=h.elem hi;refine⟨b,o,h1,h2,λW' hg=>?_⟩;have hc:cellsAt W' b=some cs:=by
  have:cellsAt W' b=cellsAt W b:=by unfold cellsAt;rw[hg]
  rw[this];exact h3
 refine⟨?_,bU hc h4,bU hc h5⟩;have e3:(cs.drop o).take 2=[.int .i64 l[i].1,.int .i64 l[i].2]:=by obtain⟨a1,a2⟩:=List.getElem?_eq_some_iff.1 h4;obtain⟨b1,b2⟩:=List.getElem?_eq_some_iff.1 h5;rw[List.drop_eq_getElem_cons a1,List.drop_eq_getElem_cons b1,a2,b2];rfl
 have:=qB (n:=2) (o:=o) hc (by rw[e3];rfl);rw[e3]at this;exact this
section
variable {W:AW} {In:Nat->Prop} {H q mh hm:Nat} {seats nx:Int} {n:Nat} {f:Nat->En}
end
section
variable {W:AW} {In:Nat->Prop} {H q mh hm:Nat} {seats nx:Int} {n:Nat} {f:Nat->En}
end
def a8E(ls:Int×Int->Int×Int->Bool)(a b:Int×(Int×Int)):Bool:=ls a.2 b.2||(!ls b.2 a.2&&decide (a.1<b.1))
def QL(x:Int×(Int×Int)):List Value:=[.int .i64 x.1,.int .i64 x.2.1,.int .i64 x.2.2]
def a08(cs:List Value)(p:Nat)(x:Int×(Int×Int)):Prop:=cs[p]? =some (.int .i64 x.1)/\cs[p+1]? =some (.int .i64 x.2.1)/\cs[p+2]? =some (.int .i64 x.2.2)
abbrev Items(W:AW)(v:Value)(l:List (Int×(Int×Int))):Prop:=Row W 3 a08 v l
theorem M8(x:Int×(Int×Int)):(QL x).length=3:=rfl
theorem a2e(x:Int×(Int×Int)):(QL x).all Eng.one=true:=rfl
theorem a4X(x:Int×(Int×Int))(pre post:List Value):a08 (pre++(QL x++post)) pre.length x:=by
 unfold a08 QL;refine⟨?_,?_,?_⟩
 ·rw[List.getElem?_append_right (Nat.le_refl _),Nat.sub_self];rfl
 ·rw[List.getElem?_append_right (by omega),Nat.add_sub_cancel_left];rfl
 ·rw[List.getElem?_append_right (by omega),Nat.add_sub_cancel_left];rfl
theorem Lst.items{lo:Nat}{W:AW}{v:Value}{l:List (Int×(Int×Int))}(h:Lst lo W 3 QL v l):Items W v l:=h.row M8 a4X
theorem a8f:l8 Tryz.prog #[343,343] 3 24=true:=by kernel_rfl
theorem a7P(a:Int)(b:Int×Int)(W:AW):iO Tryz.prog 346 [(0,.int .i64 a),(1,lG b)] W=some (.agg #[.int .i64 a,.int .i64 b.1,.int .i64 b.2],W):=Eq.trans (by kernel_rfl) rfl
theorem a8l(a b c:Int)(W:AW):aX Tryz.prog 343 1 [(0,.agg #[.int .i64 a,.int .i64 b,.int .i64 c])] W=some (.slice (some ⟨W.next,0,none⟩) 1 1,W.add (.cells [.int .i64 a,.int .i64 b,.int .i64 c])):=Eq.trans (by kernel_rfl) rfl
theorem a3j:rW Tryz.prog 275:=⟨_,_,Tryz.func275,by kernel_rfl,rfl⟩
def cfE(ls:Int×Int->Int×Int->Bool)(f:Nat->En)(i j:Nat):Int:=if(f i).b=(f j).b then 0 else if sZ ls (f i) (f j)then -1 else 1
theorem uP{ls:Int×Int->Int×Int->Bool}(o:Ord (sZ ls)){f:Nat->En}{n:Nat}(hinj:∀i j,i<n->j<n->(f i).b=(f j).b->i=j){i j:Nat}(hi:i<n)(hj:j<n):cfE ls f i j<0<->sZ ls (f i) (f j)=true:=by
 unfold cfE;by_cases h:(f i).b=(f j).b
 ·obtain rfl:=hinj i j hi hj h;rw[if_pos rfl,VQ o];simp
 ·rw[if_neg h];cases sZ ls (f i) (f j)<;>simp
theorem VV{ls:Int×Int->Int×Int->Bool}(o:Ord (sZ ls)){f:Nat->En}{n:Nat}(hinj:∀i j,i<n->j<n->(f i).b=(f j).b->i=j):OrdN n (cfE ls f) where
 irrefl i hi h:=by rw[uP o hinj hi hi,VQ o]at h;cases h
 trans i j l hi hj hl h1 h2:=by rw[uP o hinj hi hj]at h1;rw[uP o hinj hj hl]at h2;rw[uP o hinj hi hl];exact YQ o h1 h2
 ntrans i j l hi hj hl h1 h2:=by rw[uP o hinj hi hj,Bool.not_eq_true]at h1;rw[uP o hinj hj hl,Bool.not_eq_true]at h2;rw[uP o hinj hi hl,Bool.not_eq_true];exact o.neg _ _ _ h2 h1
theorem a3L(l:List En):(l.map λe=>[qC e]).flatten=l.map qC:=by
 induction l with
 |nil=>rfl
 |cons a l ih=>rw[List.map_cons,List.flatten_cons,ih];rfl
theorem a0u(n:Nat)(f:Nat->En):fF n f=(all n f).map qC:=by unfold fF all;rw[List.map_map];rfl
section
variable {q:Nat} {lv less c2 c3:Value} {n:Nat} {f:Nat->En} {bl:Option Nat} {ls:Int×Int->Int×Int->Bool}
theorem a1g(o:Ord (sZ ls))(hl:IsLess1 less ls)(hlz:∀D,kT D less){V:AW}(h:QP V q lv less c2 c3 n f bl)(hn:n<=10000)(h0:0<n){b X:Nat}(hb:V.get b=some (.cells (fF n f)))(hbl:b<V.next)(hbq:b≠q)(hbb:bl≠some b)(hbe:∀i,i<n->(f i).b≠b)(hX:V.get X=some (.cells [.pointer (some ⟨q,0,none⟩)]))(hXl:X<V.next)(hXb:X≠b):
 ∃es:List En,es.Perm (all n f)/\es.Pairwise (λx y=>sZ ls y x=false)/\aL (.func (.func 274) #[] #[]) [.slice (some ⟨b,0,none⟩) n (bQ+1),.func (.func 275) #[] #[.pointer (some ⟨X,0,none⟩)]] V=some (.tuple #[],V.put b (.cells (es.map qC))):=by
 obtain⟨hqc,hql,⟨hsl,hen,hinj⟩,hbq',heq⟩:=h;have hlen:(all n f).length=n:=vH n f;have hget:∀i (hi:i<(all n f).length),(all n f)[i]=f i:=λi hi=>by simp[all]
 obtain⟨es,e1,e2,e3⟩:=EY (all n f) (λe=>[qC e]) (sZ ls) (cf:=cfE ls f) (by rw[hlen];exact VV o hinj) (by omega) λi j hi hj=>by rw[hget,hget];exact uP o hinj (by omega) (by omega)
 refine⟨es,e1,e2,?_⟩;have vQ:∃r,cellsAt (KX V b) q=some ([lv,less]++r):=by
  obtain⟨r,hr⟩:=LM (W:=V) (b0:=b) (x:=q) (cs:=[lv,less]) (rest:=[c2,c3]) (.inl hqc) hql (Ne.symm hbq) λv hv=>by
   rcases List.mem_cons.1 hv with rfl|hv
   ·cases hsl with
    |nil h0=>exact UG
    |row bl junk h1 h2 h3=>exact RA ⟨λe=>hbb (congrArg some e),_,.inl h1⟩
   ·obtain rfl:=List.mem_singleton.1 hv;exact hlz _
  exact⟨r,by unfold cellsAt;rw[hr]⟩
 obtain⟨rq,vQ⟩:=vQ;have vX:∃r,cellsAt (KX V b) X=some ([.pointer (some ⟨q,0,none⟩)]++r):=by
  obtain⟨r,hr⟩:=LM (W:=V) (b0:=b) (x:=X) (cs:=[.pointer (some ⟨q,0,none⟩)]) (rest:=[]) (.inl hX) hXl hXb λv hv=>by obtain rfl:=List.mem_singleton.1 hv;exact BQ ⟨Ne.symm hbq,_,.inl hqc⟩
  exact⟨r,by unfold cellsAt;rw[hr]⟩
 obtain⟨rX,vX⟩:=vX;have vE:∀i,i<n->∃r,cellsAt (KX V b) (f i).b=some (.int .i64 (f i).h::.int .i64 (f i).v.1::.int .i64 (f i).v.2::r):=λi hi=>by obtain⟨r,hr⟩:=LM (W:=V) (b0:=b) (x:=(f i).b) (cs:=JI (f i) i) (rest:=[]) (.inl (by rw[List.append_nil];exact(hen i hi).1)) (hen i hi).2 (hbe i hi) λv hv=>vD (by simp only[JI,List.mem_cons,List.not_mem_nil,or_false]at hv;rcases hv with rfl|rfl|rfl|rfl<;>rfl);exact⟨.int .i64 (i:Int)::r,by unfold cellsAt;rw[hr];rfl⟩
 have key:SortFA Tryz.prog (uZ lF 275 276) [] false 1 V [.slice (some ⟨b,0,none⟩) n (bQ+1),.func (.func 275) #[] #[.pointer (some ⟨X,0,none⟩)]] (V.put b (.cells (es.map qC))):=by
  refine .inr ⟨b,bQ+1,(all n f).map λe=>[qC e],[],275,#[.pointer (some ⟨X,0,none⟩)],cfE ls f,⟨?_,?_,?_,?_,?_,?_,?_,?_,?_,a3j,?_,?_,?_⟩⟩
  ·intro h;have:=congrArg List.length h;rw[List.length_map,hlen]at this;simp at this;omega
  ·rw[List.length_map,hlen];omega
  ·intro r hr;obtain⟨e,-,rfl⟩:=List.mem_map.1 hr;rfl
  ·intro r hr v hv;obtain⟨e,-,rfl⟩:=List.mem_map.1 hr;obtain rfl:=List.mem_singleton.1 hv;rfl
  ·rw[List.length_map,hlen]
  ·rw[a3L,List.append_nil,<-a0u];exact hb
  ·intro r hr v hv;obtain⟨e,he,rfl⟩:=List.mem_map.1 hr;obtain rfl:=List.mem_singleton.1 hv;obtain⟨i,hi,rfl⟩:=dR.1 he;exact BQ ⟨hbe i hi,_,.inl (hen i hi).1⟩
  ·intro v hv;obtain rfl:v=.pointer (some ⟨X,0,none⟩):=by simpa using hv
   exact BQ ⟨hXb,_,.inl hX⟩
  ·intro g hg;cases hg
  ·intro i j hi hj;rw[List.length_map]at hi hj;rw[List.getElem_map,List.getElem_map,hget,hget];rw[hlen]at hi hj;obtain⟨ri,hri⟩:=vE i hi;obtain⟨rj,hrj⟩:=vE j hj;have hbo:=QU (rq:=rq) hl vQ hri hrj;show uZ lF 275 276 V b 275 #[.pointer (some ⟨X,0,none⟩)] (qC (f i)) (qC (f j))=_;unfold uZ cfE;simp only[if_true,qC];rw[show(cellsAt (KX V b) X).bind (λx=>x[0]?)=some (.pointer (some ⟨q,0,none⟩))by rw[vX];rfl];simp only;by_cases hij:(f i).b=(f j).b
   ·rw[if_pos (by rw[hij]),if_pos hij]
   ·rw[if_neg (λe=>hij (by injection e)),if_neg hij,(hen i hi).1,(hen j hj).1];simp only;rw[if_pos ⟨hij,by simp,by simp⟩];have hbo':lF (.func (.func 276) #[] #[]) [.pointer (some ⟨q,0,none⟩),.pointer (some ⟨(f i).b,0,none⟩),.pointer (some ⟨(f j).b,0,none⟩)] (KX V b)=some (.bool (sZ ls (f i) (f j)),KX V b):=hbo;rw[hbo']
  ·rw[List.length_map,hlen];exact VV o hinj
  ·rw[e3,a3L,List.append_nil]
 exact EK key
end
theorem ZE:((#[279]:Array TypeId)[0]?).bind Tryz.prog.underlying=some (.slice 287):=by kernel_rfl
structure Srt (ls:Int×Int->Int×Int->Bool) (n:Nat) (f:Nat->En) (l:List (Int×(Int×Int))):Prop where
 perm:l.Perm ((all n f).map hv)
 sort:l.Pairwise λa b=>a8E ls b a=false
section
variable {W:AW} {In:Nat->Prop} {q mh:Nat} {less:Value} {ls:Int×Int->Int×Int->Bool} {nx:Int} {n:Nat} {f:Nat->En}
theorem YR(o:Ord (sZ ls))(hl:IsLess1 less ls)(hlz:∀D,kT D less)(h:QS W In q mh less ls nx n f)(hn:n<=10000):
 ∃W' v l,aL (.func (.func 239) #[] #[]) [qV q] W=some (v,W')/\Le W W'/\Lst W.next W' 3 QL v l/\Srt ls n f l:=by
 have main:∃l,Srt ls n f l/\Ok (dI aL (qV q) W) λr=>Le W r.2/\Lst W.next r.2 3 QL r.1 l:=by
  obtain⟨⟨lv,bl,h1,h2,h3⟩,-⟩:=h;have oBoxP:∀W,eH (qV q) W=some (.pointer (some ⟨W.next,0,none⟩),W.add (.cells [qV q])):=λW=>rfl
  generalize hW1:W.add (.cells [qV q])=W1;have g1:∀b,b<W.next->W1.get b=W.get b:=λb hb=>by rw[<-hW1];exact AW.get_add_ne _ _ (by omega)
  have n1:W1.next=W.next+1:=by rw[<-hW1,AW.add_next]
  have l1:Le W W1:=by rw[<-hW1];exact(Le.refl _).add _
  have x1:W1.get W.next=some (.cells [qV q]):=by rw[<-hW1];exact AW.get_add _ _
  have q1:QP W1 q lv less (.map (some mh)) (.int .i64 nx) n f bl:=h1.keep (by omega) λb hb _=>g1 b hb
  obtain⟨v1,W2,c1,c2,c3⟩:=ZT q1.pile.sl hn;have q2:QP W2 q lv less (.map (some mh)) (.int .i64 nx) n f bl:=q1.keep c2.next λb hb _=>c2.get b hb
  have x2:W2.get W.next=some (.cells [qV q]):=(c2.get _ (by omega)).trans x1;have hbn:∀b,bl=some b->b<W1.next:=λb hb=>q1.pile.sl.lt hb
  have hs:∃(es:List En) (W3:AW),es.Perm (all n f)/\es.Pairwise (λx y=>sZ ls y x=false)/\aL (.func (.func 274) #[] #[]) [v1,.func (.func 275) #[] #[.pointer (some ⟨W.next,0,none⟩)]] W2=some (.tuple #[],W3)/\W3.next=W2.next/\(∀b,b<W1.next->W3.get b=W2.get b)/\
   (∀W',aF Tryz.prog .len #[279] 3 #[false] [v1] W'=some (.int .i64 (n:Int),W'))/\∀i (hi:i<es.length),∃b,(∀W' k,jS 1 v1 (.int k (i:Int)) W'=some (.pointer (some ⟨b,i,none⟩),W'))/\∀W',Le W3 W'->aR (.pointer (some ⟨b,i,none⟩)) W'=some (qC es[i],W'):=by
   rcases c3 with⟨rfl,a,c,rfl⟩|⟨h0,b,b1,b2,rfl,b3⟩
   ·refine⟨[],W2,.refl _,.nil,EK (.inl ⟨a,c,_,rfl,rfl⟩),rfl,λ_ _=>rfl,λW'=>iA ZE _ _ _,λi hi=>by simp at hi⟩
   ·obtain⟨es,e1,e2,e3⟩:=a1g o hl hlz q2 hn h0 b3 b2 (by have:=q1.lt;omega) (λe=>by have:=hbn b e;omega) (λi hi e=>by have:=(q1.pile.en i hi).2;omega) x2 (by have:=c2.next;omega) (by omega);have hlen:es.length=n:=by rw[e1.length_eq,vH]
    refine⟨es,_,e1,e2,e3,by rw[AW.put_next],λd hd=>AW.get_put_ne _ _ (by omega),λW'=>iA ZE _ _ _,λi hi=>⟨b,λW' k=>by rw[nM (by omega),Nat.zero_add,Nat.mul_one],λW' hle=>lJ (dB (cs:=es.map qC) ?_) ?_⟩⟩
    ·rw[hle.get b (by rw[AW.put_next];exact b2)];exact AW.get_put _ _ _
    ·rw[List.getElem?_map,List.getElem?_eq_getElem hi];rfl
  obtain⟨es,W3,e1,e2,e3,n3,g3,e4,e5⟩:=hs;have hlen:es.length=n:=by rw[e1.length_eq,vH]
  have l3:Le W1 W3:=⟨by rw[n3];exact c2.next,λb hb=>by rw[g3 b hb];exact c2.get b hb⟩;have hcell:∀i (hi:i<es.length) W',Le W3 W'->aR (.pointer (some ⟨es[i].b,0,none⟩)) W'=some (.int .i64 es[i].h,W')/\jV 2 (.pointer (some ⟨es[i].b,1,none⟩)) W'=some (lG es[i].v,W'):=λi hi W' hle=>by
   obtain⟨k,hk,e⟩:=dR.1 (e1.mem_iff.1 (List.getElem_mem hi));have hc:W'.get (f k).b=some (.cells (JI (f k) k)):=by have:=q1.pile.en k hk;rw[hle.get _ (Nat.lt_of_lt_of_le this.2 l3.next),l3.get _ this.2];exact this.1
   rw[<-e];exact⟨lJ (dB hc) rfl,qB (fE (dB hc)) rfl⟩
  refine⟨es.map hv,⟨e1.map hv,by rw[List.pairwise_map];exact e2⟩,?_⟩;unfold dI;simp only[SX,oBoxP,hW1,lJ (o:=0) (dB x1) rfl,aI,Nat.zero_add,q1.l0,c1,e3,e4];refine bR n (by omega) (λk R W'=>∃out,R 16=v1/\R 17=.int .i64 (n:Int)/\R 18=.int .i64 (k:Int)/\R 4=out/\Le W3 W'/\Lst W3.next W' 3 QL out ((es.take k).map hv))
   (λr=>r.1=.exit 0/\∃out,r.2.1 4=out/\Le W3 r.2.2/\Lst W.next r.2.2 3 QL out (es.map hv)) ⟨_,rfl,rfl,rfl,rfl,.refl _,.nil _ _ _ _⟩ ?_ ?_ ?_
  ·rintro k R W' hk ⟨out,r16,r17,r18,r4,hle,hL⟩;unfold cZ;have hke:k<es.length:=by omega
   obtain⟨b,f1,f2⟩:=e5 k hke;obtain⟨d1,d2⟩:=hcell k hke W' hle;have t1:((k:Int)<(n:Int)):=by omega
   have t2:=λW'=>bA (P:=Tryz.prog) (W:=W') (t:=3) (c:=false) (d:=true) (a:=(k:Int)) (b:=1) (by omega) (by omega)
   have hlt:((es.take k).map hv).length=k:=by rw[List.length_map,List.length_take];omega
   obtain⟨v',W4,p1,p2,p3,p4⟩:=(hL.mono ((Le.refl W').add (.cells (QL (hv es[k]))))).push (a:=hv es[k]) (b:=W'.next) (c:=1) a8f M8 a2e dL (by rw[hlt];omega) (by rw[hlt];omega) (by rw[AW.add_next];have:=hle.next;omega);simp only[SX,r16,r17,r18,r4,t1,f1,f2 W' hle,aI,Nat.zero_add,d1,d2,a7P,a8l];have p1':bE Tryz.prog (W'.add (.cells [.int .i64 es[k].h,.int .i64 es[k].v.1,.int .i64 es[k].v.2])) #[343,343] out (.slice (some ⟨W'.next,0,none⟩) 1 1)=some (v',W4):=p1;simp only[SX,p1',t2,aA];refine .inl ⟨trivial,v',r16,r17,by rw[show((k+1:Nat):Int)=(k:Int)+1 by omega];rfl,rfl,p4 _ (hle.add _) (Nat.le_refl _),?_⟩;rw[List.take_succ_eq_append_getElem hke,List.map_append];exact p2
  ·rintro R W' ⟨out,r16,r17,r18,r4,hle,hL⟩;unfold cZ;have t1:¬((n:Int)<(n:Int)):=by omega
   simp only[SX,r16,r17,r18,t1,aA];rw[List.take_of_length_le (by omega)]at hL;exact⟨by simp,trivial,out,r4,hle,Lst.low hL (by have:=l3.next;omega)⟩
  ·rintro⟨x,R,W'⟩ ⟨hx,out,r4,hle,hL⟩;simp only at hx r4 hle hL;subst hx;simp only[SX,r4,aA];exact⟨(l1.trans l3).trans hle,hL⟩
 obtain⟨l,hs,main⟩:=main;obtain⟨v,W2,k1,k2,k3⟩:=a1B main kU;exact⟨W2,v,l,k1,k2,k3,hs⟩
end
theorem a6Y(W:AW):dP Tryz.prog 346 W=some (.pointer (some ⟨W.next,0,none⟩),W.add (.cells [.int .i64 0,.int .i64 0,.int .i64 0])):=Eq.trans (by kernel_rfl) rfl
theorem a6P:((#[343]:Array TypeId)[0]?).bind Tryz.prog.underlying=some (.slice 346):=by kernel_rfl
section
variable {W:AW} {In:Nat->Prop} {q mh:Nat} {less:Value} {ls:Int×Int->Int×Int->Bool} {nx:Int} {n:Nat} {f:Nat->En}
theorem a4q(W:AW)(q:Nat):aL (.func (.func 197) #[] #[]) [qV q] W=some (.func (.func 238) #[] #[.pointer (some ⟨W.next,0,none⟩)],W.add (.cells [qV q])):=by
 have oBoxP:∀W,eH (qV q) W=some (.pointer (some ⟨W.next,0,none⟩),W.add (.cells [qV q])):=λW=>rfl
 have:eY aL (qV q) W=some (.func (.func 238) #[] #[.pointer (some ⟨W.next,0,none⟩)],W.add (.cells [qV q])):=by unfold eY;simp only[SX,oBoxP]
 rw[mQ this,fD rfl]
theorem a3o(o:Ord (sZ ls))(hl:IsLess1 less ls)(hlz:∀D,kT D less)(h:QS W In q mh less ls nx n f)(hn:n<=10000){X:Nat}(hX:W.get X=some (.cells [qV q])){y:Value}:
 ∃l W1,Srt ls n f l/\Le W W1/\∀(J:List (Int×(Int×Int))->AW->Prop) (D:AW->Prop),J [] W1->(∀pre W',J pre W'->W1.next<=W'.next/\∀b,W.next<=b->b<W1.next->W'.get b=W1.get b)->
  (∀pre x W' cs,pre++[x]<+:l->J pre W'->∃r W2,aL y [.int .i64 x.1,lG x.2] (W'.add (.cells cs))=some (.bool r,W2)/\(r=true->J (pre++[x]) W2)/\(r=false->D W2))->
  ∃W',aL (.func (.func 238) #[] #[.pointer (some ⟨X,0,none⟩)]) [y] W=some (.tuple #[],W')/\(J l W'\/D W'):=by
 have hm:=VE h;obtain⟨W1,v,l,s1,s2,s3,s4⟩:=YR o hl hlz h hn;refine⟨l,W1,s4,s2,λJ D h0 hk step=>?_⟩;have main:Ok (dX aL y (.pointer (some ⟨X,0,none⟩)) W) λr=>r.1=.tuple #[]/\(J l r.2\/D r.2):=by
  have hlen:=(Lst.items s3).len a6P;have hget:∀i (hi:i<l.length) W',(W1.next<=W'.next/\∀b,W.next<=b->b<W1.next->W'.get b=W1.get b)->∃p,(∀W2 kk,jS 3 v (.int kk (i:Int)) W2=some (p,W2))/\jV 3 p W'=some (.agg #[.int .i64 l[i].1,.int .i64 l[i].2.1,.int .i64 l[i].2.2],W'):=by
   intro i hi W' ⟨hn',hg'⟩;rcases s3 with⟨h0,e⟩|⟨h0,B,b1,b2,e,b3⟩
   ·subst h0;simp at hi
   ·subst e;refine⟨.pointer (some ⟨B,i*3,none⟩),λW2 kk=>by rw[nM hi,Nat.zero_add],?_⟩;have hc:cellsAt W' B=some (l.flatMap QL):=aZ ((hg' B b1 b2).trans b3);have e:l.flatMap QL=(l.take i).flatMap QL++(QL l[i]++(l.drop (i+1)).flatMap QL):=by rw[<-List.flatMap_cons,<-List.drop_eq_getElem_cons hi,<-List.flatMap_append,List.take_append_drop]
    have e2:((l.take i).flatMap QL).length=i*3:=by rw[aN M8,List.length_take,Nat.min_eq_left (by omega)]
    have e3:((l.flatMap QL).drop (i*3)).take 3=[.int .i64 l[i].1,.int .i64 l[i].2.1,.int .i64 l[i].2.2]:=by rw[e,<-e2,List.drop_left];rfl
    have:=qB (n:=3) (o:=i*3) hc (by rw[e3];rfl);rw[e3]at this;exact this
  have hl':l.length<=10000:=by rw[s4.perm.length_eq,List.length_map,vH];exact hn
  unfold dX;simp only[SX,lJ (o:=0) (dB hX) rfl,hm,s1,hlen];refine bR l.length (by omega) (λk R W'=>R 0=y/\R 9=v/\R 10=.int .i64 (l.length:Int)/\R 11=.int .i64 (k:Int)/\J (l.take k) W')
   (λr=>(r.1=.exit 0/\J l r.2.2)\/(r.1=.ret/\D r.2.2)) ⟨rfl,rfl,rfl,rfl,by rw[List.take_zero];exact h0⟩ ?_ ?_ ?_
  ·rintro k R W' hk' ⟨r0,r9,r10,r11,hJ⟩;unfold dE;obtain⟨p,f1,f2⟩:=hget k hk' W' (hk _ _ hJ);have t1:((k:Int)<(l.length:Int)):=by omega
   have t2:=λW'=>bA (P:=Tryz.prog) (W:=W') (t:=3) (c:=false) (d:=true) (a:=(k:Int)) (b:=1) (by omega) (by omega)
   have e2:iB [Value.int .i64 0,.int .i64 0,.int .i64 0] 0 [.int .i64 l[k].1,.int .i64 l[k].2.1,.int .i64 l[k].2.2]=[.int .i64 l[k].1,.int .i64 l[k].2.1,.int .i64 l[k].2.2]:=rfl;have st:mY 3 (.pointer (some ⟨W'.next,0,none⟩)) (.agg #[.int .i64 l[k].1,.int .i64 l[k].2.1,.int .i64 l[k].2.2]) (W'.add (.cells [.int .i64 0,.int .i64 0,.int .i64 0]))=some (undef,W'.add (.cells [.int .i64 l[k].1,.int .i64 l[k].2.1,.int .i64 l[k].2.2])):=by rw[zO,fG,Option.bind_some,if_pos ⟨rfl,by simp,rfl⟩,LK];rfl
   have a1:aR (.pointer (some ⟨W'.next,0,none⟩)) (W'.add (.cells [.int .i64 l[k].1,.int .i64 l[k].2.1,.int .i64 l[k].2.2]))=some (.int .i64 l[k].1,W'.add (.cells [.int .i64 l[k].1,.int .i64 l[k].2.1,.int .i64 l[k].2.2])):=lJ fG rfl;have a2:jV 2 (.pointer (some ⟨W'.next,1,none⟩)) (W'.add (.cells [.int .i64 l[k].1,.int .i64 l[k].2.1,.int .i64 l[k].2.2]))=some (lG l[k].2,W'.add (.cells [.int .i64 l[k].1,.int .i64 l[k].2.1,.int .i64 l[k].2.2])):=qB dL rfl;have hpre:l.take k++[l[k]]<+:l:=by rw[<-List.take_succ_eq_append_getElem hk'];exact List.take_prefix _ _
   obtain⟨r,W2,y1,y2,y3⟩:=step _ _ _ [.int .i64 l[k].1,.int .i64 l[k].2.1,.int .i64 l[k].2.2] hpre hJ;cases r
   ·simp only[SX,r0,r9,r10,r11,t1,f1,f2,a6Y,st,Nat.zero_add,a1,a2,y1,aA];exact .inr ⟨by simp,.inr ⟨trivial,y3 rfl⟩⟩
   ·simp only[SX,r0,r9,r10,r11,t1,f1,f2,a6Y,st,Nat.zero_add,a1,a2,y1,t2,aA];refine .inl ⟨trivial,r0,r9,r10,by rw[show((k+1:Nat):Int)=(k:Int)+1 by omega];rfl,?_⟩;rw[List.take_succ_eq_append_getElem hk'];exact y2 rfl
  ·rintro R W' ⟨r0,r9,r10,r11,hJ⟩;unfold dE;have t1:¬((l.length:Int)<(l.length:Int)):=by omega
   simp only[SX,r0,r9,r10,r11,t1,aA];rw[List.take_length]at hJ;exact⟨by simp,.inl ⟨trivial,hJ⟩⟩
  ·rintro⟨x,R,W'⟩ hq;simp only at hq;rcases hq with⟨rfl,hq⟩|⟨rfl,hq⟩
   ·simp only[SX,aA];exact⟨trivial,.inl hq⟩
   ·simp only[SX,aA];exact⟨trivial,.inr hq⟩
 obtain⟨⟨r,W'⟩,k1,k2,k3⟩:=main;simp only at k2 k3;subst k2;exact⟨W',by rw[lH k1,fD rfl],k3⟩
end
section
variable {W:AW} {In:Nat->Prop} {q mh:Nat} {less:Value} {ls:Int×Int->Int×Int->Bool} {nx:Int} {n:Nat} {f:Nat->En}
theorem a4N{X nt:Nat}{R:Nat->Value}{ps:Array Tmp}{ac bd:Code}{ρ:Type}{K:Eng.X×AW->Option ρ}{G:ρ->Prop}(o:Ord (sZ ls))(hl:IsLess1 less ls)(hlz:∀D,kT D less)(h:QS W In q mh less ls nx n f)(hn:n<=10000)(hX:W.get X=some (.cells [qV q]))(hXl:X<W.next)(hp:ps.size=2)
 (J:List (Int×(Int×Int))->Nat->List (Int×(Int×Int))->AW->Prop)(Q:Eng.X->AW->Prop)
 (fr:(Nat->Value)->Int×(Int×Int)->Nat->Nat->Value)(has:∀x W',gY Tryz.prog aL false nt ac LT (nC ps.toList [.int .i64 x.1,lG x.2] R) W' pR=some (.normal,fr R x W'.next,W'.add (.cells [.int .i64 x.2.1,.int .i64 x.2.2])))
 (h0:∀l W1,Srt ls n f l->Le (W.add (.loop .ready none R nt ps ac bd)) W1->J l W1.next [] W1)
 (hA:∀l N pre W' cs,J l N pre W'->W.next<N->N<=W'.next->J l N pre (W'.add (.cells cs)))
 (hP:∀l N pre W' b,J l N pre W'->J l N pre (W'.put W.next b))(hQ:∀x W' b,Q x W'->Q x (W'.put W.next b))
 (step:∀l N pre x W' R' b,R'=fr R x b->W'.get b=some (.cells [.int .i64 x.2.1,.int .i64 x.2.2])->N<=b->b<W'.next->Srt ls n f l->pre++[x]<+:l->J l N pre W'->W.next<N->N<=W'.next->
   Ok (gY Tryz.prog aL false nt bd LT R' W' pR) λr=>W'.next<=r.2.2.next/\(∀b,W.next<=b->b<N->r.2.2.get b=W'.get b)/\((r.1=.normal/\J l N (pre++[x]) r.2.2)\/(r.1≠ .normal/\Q r.1 r.2.2)))
 (after:∀l N x W2,Srt ls n f l->(x=.normal/\J l N l W2)\/(x≠ .normal/\Q x W2)->Ok (K (x,W2.kill W.next)) G):
 Ok (aB (lW aL (.func (.func 238) #[] #[.pointer (some ⟨X,0,none⟩)]) (.loop .ready none R nt ps ac bd) W) K) G:=by
 generalize hWl:W.add (.loop .ready none R nt ps ac bd)=Wl at *;have gl:∀b,b<W.next->Wl.get b=W.get b:=λb hb=>by rw[<-hWl];exact AW.get_add_ne _ _ (by omega)
 have nl:Wl.next=W.next+1:=by rw[<-hWl,AW.add_next]
 have ll:Wl.get W.next=some (.loop .ready none R nt ps ac bd):=by rw[<-hWl];exact AW.get_add _ _
 have hL:QS Wl In q mh less ls nx n f:=h.keep (by omega) (λb hb _=>gl b hb) (λb _ hi=>hi);obtain⟨l,W1,s1,s2,s3⟩:=a3o o hl hlz hL hn ((gl X hXl).trans hX) (y:=.func (.yield W.next) #[] #[]);have n1:W.next<W1.next:=by have:=s2.next;omega
 obtain⟨W2,k1,k2⟩:=s3
  (λpre V=>J l W1.next pre V/\V.get W.next=some (.loop .ready none R nt ps ac bd)/\W1.next<=V.next/\∀b,Wl.next<=b->b<W1.next->V.get b=W1.get b)
  (λV=>∃x,x≠ .normal/\Q x V/\V.get W.next=some (.loop .done x.jump R nt ps ac bd))
  ⟨h0 l W1 s1 s2,(s2.get _ (by omega)).trans ll,Nat.le_refl _,λb _ _=>rfl⟩ (λpre V hV=>hV.2.2)
  (λpre x V cs hpre ⟨hJ,hget,hn1,hg⟩=>by
    have hJ1:=hA _ _ _ _ cs hJ n1 hn1;have hJ2:=hP _ _ _ _ (.loop .busy none R nt ps ac bd) (hA _ _ _ _ [.int .i64 x.2.1,.int .i64 x.2.2] hJ1 n1 (by rw[AW.add_next];omega));obtain⟨⟨x1,R2,W3⟩,e1,e2,e3,e4⟩:=step l W1.next pre x _ _ (V.add (.cells cs)).next rfl (by rw[AW.get_put_ne _ _ (by rw[AW.add_next];omega)];exact AW.get_add _ _) (by rw[AW.add_next];omega) (by simp only[AW.put_next,AW.add_next];omega) s1 hpre hJ2 n1 (by rw[AW.put_next,AW.add_next,AW.add_next];omega);simp only at e1 e2 e3 e4;have hbusy:W3.get W.next=some (.loop .busy none R nt ps ac bd):=by rw[e3 _ (Nat.le_refl _) n1,AW.get_put]
    have hget1:(V.add (.cells cs)).get W.next=some (.loop .ready none R nt ps ac bd):=by rw[AW.get_add_ne _ _ (by omega)];exact hget
    have hget2:((V.add (.cells cs)).add (.cells [.int .i64 x.2.1,.int .i64 x.2.2])).get W.next=some (.loop .ready none R nt ps ac bd):=by rw[AW.get_add_ne _ _ (by rw[AW.add_next];omega)];exact hget1
    have hy:=JA (P:=Tryz.prog) (args:=[.int .i64 x.1,lG x.2]) hget1 (by rw[hp];rfl) (has x _) hget2 e1 hbusy;have hn3:W1.next<=W3.next:=by rw[AW.put_next,AW.add_next,AW.add_next]at e2;omega
    have hg3:∀o' b,Wl.next<=b->b<W1.next->(W3.put W.next o').get b=W1.get b:=λo' b hb1 hb2=>by rw[AW.get_put_ne _ _ (by omega),e3 b (by omega) hb2,AW.get_put_ne _ _ (by omega),AW.get_add_ne _ _ (by rw[AW.add_next];omega),AW.get_add_ne _ _ (by omega)];exact hg b hb1 hb2
    rcases e4 with⟨rfl,e4⟩|⟨kx,e4⟩
    ·exact⟨true,_,hy,λ_=>⟨hP _ _ _ _ _ e4,AW.get_put _ _ _,by rw[AW.put_next];exact hn3,hg3 _⟩,λh=>by cases h⟩
    ·refine⟨false,W3.put W.next (.loop .done x1.jump R nt ps ac bd),?_,λh=>by(cases h),λ_=>⟨x1,kx,hQ _ _ _ e4,AW.get_put _ _ _⟩⟩;refine hy.trans ?_;cases x1 with
     |normal=>exact absurd rfl kx
     |exit i=>rfl
     |ret=>rfl)
 rcases k2 with⟨k2,k3,-⟩|⟨x,k2,k3,k4⟩
 ·rw[zS (by rw[hWl];exact k1) k3 (by simp),qO];exact after l _ _ W2 s1 (.inl ⟨rfl,k2⟩)
 ·rw[FZ (by rw[hWl];exact k1) k4,qO];exact after l W1.next _ W2 s1 (.inr ⟨k2,k3⟩)
end
end Go.Proofs.YtnigceddndemkaaGreatDoor.Ho
namespace Go.Proofs.YtnigceddndemkaaGreatDoor
open Go Go.Eng Go.Hp
set_option maxRecDepth 100000
theorem Items.get{W:AW}{v:Value}{l:List (Int×Int)}(h:Items W v l){i:Nat}(hi:i<l.length):
 ∃b o,(∀W' k,jS 2 v (.int k (i:Int)) W'=some (.pointer (some ⟨b,o,none⟩),W'))/\b<W.next/\∀W',W'.get b=W.get b->jV 2 (.pointer (some ⟨b,o,none⟩)) W'=some (.agg #[.int .i64 l[i].1,.int .i64 l[i].2],W')/\aR (.pointer (some ⟨b,o,none⟩)) W'=some (.int .i64 l[i].1,W'):=by
 obtain⟨b,o,cs,h1,h2,h3,h4,h5⟩:=h.elem hi;refine⟨b,o,h1,h2,λW' hg=>?_⟩;have hc:cellsAt W' b=some cs:=by
  have:cellsAt W' b=cellsAt W b:=by unfold cellsAt;rw[hg]
  rw[this];exact h3
 refine⟨?_,bU hc h4⟩;have e3:(cs.drop o).take 2=[.int .i64 l[i].1,.int .i64 l[i].2]:=by obtain⟨a1,a2⟩:=List.getElem?_eq_some_iff.1 h4;obtain⟨b1,b2⟩:=List.getElem?_eq_some_iff.1 h5;rw[List.drop_eq_getElem_cons a1,List.drop_eq_getElem_cons b1,a2,b2];rfl
 have:=qB (n:=2) (o:=o) hc (by rw[e3];rfl);rw[e3]at this;exact this
section
variable {W:AW} {In:Nat->Prop} {q mh:Nat} {less:Value} {ls:Int->Int->Bool} {nx:Int} {n:Nat} {f:Nat->En}
end
theorem a6t(k:Nat)(D:Nat->Prop):kT D (.func (.func k) #[] #[]):=GR (by simp) (by simp)
end Go.Proofs.YtnigceddndemkaaGreatDoor
namespace Go.Proofs.YtnigceddndemkaaGreatDoor.Ho
open Go Go.Eng Go.Hp
set_option maxRecDepth 100000
theorem a1J(a b:Int×Int)(W:AW):lF (.func (.func 198) #[] #[]) [lG a,lG b] W=some (.int .i64 (sK a.1 b.1),W):=by
 refine aT rfl ?_ rQ;unfold jK;have oB:∀(v:Int×Int) W,eH (lG v) W=some (.pointer (some ⟨W.next,0,none⟩),W.add (.cells [.int .i64 v.1,.int .i64 v.2])):=λv W=>fH _
 generalize hW2:(W.add (.cells [.int .i64 a.1,.int .i64 a.2])).add (.cells [.int .i64 b.1,.int .i64 b.2])=W2;have n1:(W.add (.cells [.int .i64 a.1,.int .i64 a.2])).next=W.next+1:=AW.add_next _ _;have xa:W2.get W.next=some (.cells [.int .i64 a.1,.int .i64 a.2]):=by rw[<-hW2,AW.get_add_ne _ _ (by rw[n1];omega)];exact AW.get_add _ _
 have xb:W2.get (W.next+1)=some (.cells [.int .i64 b.1,.int .i64 b.2]):=by rw[<-hW2];have:=(W.add (.cells [.int .i64 a.1,.int .i64 a.2])).get_add (.cells [.int .i64 b.1,.int .i64 b.2]);rwa [n1]at this
 have l2:Le W W2:=by rw[<-hW2];exact((Le.refl _).add _).add _
 simp only[SX,oB,n1,hW2,Nat.zero_add,lJ (o:=0) (dB xa) rfl,lJ (o:=0) (dB xb) rfl,UY,aA];exact⟨trivial,l2⟩
theorem a5m:rW Tryz.prog 198:=⟨_,_,Tryz.func198,by kernel_rfl,rfl⟩
theorem VX(l:List (Int×Int)):(l.map oK).flatten=l.flatMap oK:=by
 induction l with
 |nil=>rfl
 |cons a l ih=>rw[List.map_cons,List.flatten_cons,ih];rfl
theorem EA(a b:Int):sK a b<0<->a<b:=by
 unfold sK;repeat' split
 all_goals omega
theorem Q0{V:AW}{l:List (Int×Int)}{B c:Nat}(h0:l≠[])(hl:l.length<=10000)(hB:V.get B=some (.cells (l.flatMap oK))):∃l':List (Int×Int),l'.Perm l/\l'.Pairwise (λa b=>a.1<=b.1)/\aL (.func (.func 78) #[] #[]) [.slice (some ⟨B,0,none⟩) l.length c,.func (.func 198) #[] #[]] V=some (.tuple #[],V.put B (.cells (l'.flatMap oK))):=by
 have hpos:0<l.length:=List.length_pos_iff.2 h0;have hO:OrdN l.length (λi j=>sK (l.getD i (0,0)).1 (l.getD j (0,0)).1):=⟨λi _ h=>by rw[EA]at h;omega,λi j k _ _ _ h1 h2=>by rw[EA]at *;omega,λi j k _ _ _ h1 h2=>by rw[EA]at *;omega⟩;obtain⟨l',e1,e2,e3⟩:=EY l oK (λa b=>decide (a.1<b.1)) hO hpos λi j hi hj=>by rw[EA];simp[List.getD_eq_getElem?_getD,hi,hj]
 refine⟨l',e1,e2.imp λ{a b} h=>by have:=of_decide_eq_false h;omega,vP ?_⟩;refine .inr ⟨B,c,l.map oK,[],198,#[],λi j=>sK (l.getD i (0,0)).1 (l.getD j (0,0)).1,⟨?_,?_,?_,?_,?_,?_,?_,?_,?_,a5m,?_,?_,?_⟩⟩
 ·intro h;have:=congrArg List.length h;rw[List.length_map]at this;simp at this;exact h0 this
 ·rw[List.length_map];omega
 ·intro r hr;obtain⟨e,-,rfl⟩:=List.mem_map.1 hr;rfl
 ·intro r hr v hv;obtain⟨e,-,rfl⟩:=List.mem_map.1 hr;simp only[oK,List.mem_cons,List.not_mem_nil,or_false]at hv;rcases hv with rfl|rfl<;>rfl
 ·rw[List.length_map]
 ·rw[VX,List.append_nil];exact hB
 ·intro r hr v hv;obtain⟨e,-,rfl⟩:=List.mem_map.1 hr;simp only[oK,List.mem_cons,List.not_mem_nil,or_false]at hv;exact vD (by rcases hv with rfl|rfl<;>rfl)
 ·intro v hv;simp at hv
 ·intro g hg;cases hg
 ·intro i j hi hj;rw[List.length_map]at hi hj;rw[List.getElem_map,List.getElem_map];have e4:∀x:Int×Int,elV true (oK x)=lG x:=λx=>rfl
  rw[e4,e4];refine(PW (a1J _ _ _)).trans ?_;simp[List.getD_eq_getElem?_getD,hi,hj]
 ·rw[List.length_map];exact hO
 ·rw[e3,VX,List.append_nil]
theorem a8J(W:AW):dP Tryz.prog 32 W=some (.pointer (some ⟨W.next,0,none⟩),W.add (.cells [.slice none 0 0])):=Eq.trans (by kernel_rfl) rfl
theorem a0K{ls:Int×Int->Int×Int->Bool}{n:Nat}{f:Nat->En}{l:List (Int×(Int×Int))}(h:Srt ls n f l):l.length=n:=by rw[h.perm.length_eq,List.length_map,vH]
section
variable {W:AW} {In:Nat->Prop} {H q mh hm:Nat} {seats nx:Int} {n:Nat} {f:Nat->En}
theorem a1F(h:HS W In H q mh hm seats nx n f)(hn:n<=5000):
 ∃W' v,∃l:List (Int×Int),aL (.func (.func 140) #[] #[]) [hP H] W=some (v,W')/\Le W W'/\Lst W.next W' 2 oK v l/\l.Perm (xC n f)/\l.Pairwise (λa b=>a.1<=b.1):=by
 have main:Ok (lX aL (hP H) W) λr=>∃l:List (Int×Int),(l.Perm (xC n f)/\l.Pairwise λa b=>a.1<=b.1)/\Le W r.2/\Lst W.next r.2 2 oK r.1 l:=by
  generalize hW1:W.add (.cells [.slice none 0 0])=W1;have n1:W1.next=W.next+1:=by rw[<-hW1,AW.add_next]
  have l1:Le W W1:=by rw[<-hW1];exact(Le.refl _).add _
  have x1:W1.get W.next=some (.cells [.slice none 0 0]):=by rw[<-hW1];exact AW.get_add _ _
  have h1:HS W1 In H q mh hm seats nx n f:=h.keep l1.next (λb hb _=>l1.get b hb) (λb _ hi=>hi);generalize hW2:W1.add (.cells [qV q])=W2;have n2:W2.next=W1.next+1:=by rw[<-hW2,AW.add_next]
  have l2:Le W1 W2:=by rw[<-hW2];exact(Le.refl _).add _
  have x2:W2.get W.next=some (.cells [.slice none 0 0]):=(l2.get _ (by omega)).trans x1;have y2:W2.get W1.next=some (.cells [qV q]):=by rw[<-hW2];exact AW.get_add _ _
  have h2:QS W2 _ q mh hF lQ nx n f:=h1.qs.keep l2.next (λb hb _=>l2.get b hb) (λb _ hi=>hi);have e0:¬seats=0:=by have:=h.sz;omega
  unfold lX;simp only[SX,a3w,aI,Nat.zero_add,h.l0,e0,decide_false,a8J,hW1,h1.l1,a4q,hW2];refine a4N GQ hoLess1_ok (λD=>a6t 132 D) h2 (by omega) y2 (by omega) rfl
   (λl N pre V=>pre<+:l/\W2.next<N/\N<=V.next/\(∀b,b<W.next->V.get b=W.get b)/\∃out,V.get W.next=some (.cells [out])/\Lst N V 2 oK out (pre.map (·.2)))
   (λ_ _=>False) (λR x b=>dQ (nC (#[20,21]:Array Tmp).toList [.int .i64 x.1,lG x.2] R) (some 5) (.pointer (some ⟨b,0,none⟩))) ?_ ?_ ?_ ?_ (λ_ _ _ h=>h) ?_ ?_
  ·intro x W';rw[rC];unfold nH;have r21:∀R:Nat->Value,nC (#[20,21]:Array Tmp).toList [.int .i64 x.1,lG x.2] R 21=lG x.2:=λR=>rfl
   have st:=a6a x.2 (AW.get_add W' (.cells [.int .i64 0,.int .i64 0]));rw[LK]at st;simp only[SX,a6x,r21,st]
  ·intro l V hs hle;have hn':=hle.next;rw[AW.add_next]at hn';have hg:∀b,b<W2.next->V.get b=W2.get b:=λb hb=>by rw[hle.get b (by rw[AW.add_next];omega),AW.get_add_ne _ _ (by omega)]
   exact⟨List.nil_prefix,by omega,Nat.le_refl _,λb hb=>by rw[hg b (by omega),l2.get b (by omega),l1.get b hb],_,by rw[hg _ (by omega)];exact x2,.nil _ _ _ _⟩
  ·rintro l N pre V cs ⟨a1,a2,a3,a4,out,a5,a6⟩- -;exact⟨a1,a2,by rw[AW.add_next];omega,λb hb=>by rw[AW.get_add_ne _ _ (by omega)];exact a4 b hb,out,by rw[AW.get_add_ne _ _ (by omega)];exact a5,a6.mono ((Le.refl _).add _)⟩
  ·rintro l N pre V b ⟨a1,a2,a3,a4,out,a5,a6⟩;exact⟨a1,a2,by rw[AW.put_next];omega,λb hb=>by rw[AW.get_put_ne _ _ (by omega)];exact a4 b hb,out,by rw[AW.get_put_ne _ _ (by omega)];exact a5,UO a6 λb hb1 hb2=>⟨by rw[AW.put_next];exact hb2,AW.get_put_ne _ _ (by omega)⟩⟩
  ·rintro l N pre x V R' bb hR hbb hbN hbV hs hpre ⟨a1,a2,a3,a4,out,a5,a6⟩ b1 b2;have hlen:=hpre.length_le;rw[List.length_append,a0K hs]at hlen;simp only[List.length_cons,List.length_nil]at hlen;rw[qU];unfold nA;obtain⟨v',W4,p1,p2,p3,p4⟩:=a1P (a:=x.2) (b:=V.next) (c:=1) a3T kX LY (a6.mono ((Le.refl V).add (.cells (oK x.2)))) dL (by rw[List.length_map];omega) (by rw[List.length_map];omega) (by rw[AW.add_next];omega);have p1':bE Tryz.prog (V.add (.cells [.int .i64 x.2.1,.int .i64 x.2.2])) #[32,32] out (.slice (some ⟨V.next,0,none⟩) 1 1)=some (v',W4):=p1;obtain⟨a,c,rfl⟩:=YH p2;have g4:∀b,b<N->W4.get b=V.get b:=λb hb=>by rw[p4 b hb,AW.get_add_ne _ _ (by omega)]
   have x4:=(g4 W.next (by omega)).trans a5;have st:=YZ (v:=.slice a (pre.map (·.2)++[x.2]).length c) (o:=0) x4 (by simp) rfl rfl;rw[show([out]:List Value).set 0 (.slice a (pre.map (·.2)++[x.2]).length c)=[.slice a (pre.map (·.2)++[x.2]).length c]from rfl]at st;rw[AW.add_next]at p3;have g5:∀b,b≠W.next->(W4.put W.next (.cells [.slice a (pre.map (·.2)++[x.2]).length c])).get b=W4.get b:=λb hb=>AW.get_put_ne _ _ (Ne.symm hb)
   have x5:(W4.put W.next (.cells [.slice a (pre.map (·.2)++[x.2]).length c])).get W.next=some (.cells [.slice a (pre.map (·.2)++[x.2]).length c]):=AW.get_put _ _ _;have r3:R' 3=.pointer (some ⟨W.next,0,none⟩):=by rw[hR];rfl
   have r5:R' 5=.pointer (some ⟨bb,0,none⟩):=by rw[hR];rfl
   simp only[SX,r3,r5,lJ (o:=0) (dB a5) rfl,a3Q hbb,a8C,p1',st,aA];refine⟨by rw[AW.put_next];omega,λb hb1 hb2=>by rw[g5 b (by omega)];exact g4 b hb2,.inl ⟨trivial,hpre,a2,by rw[AW.put_next];omega,λb hb=>?_,_,x5,?_⟩⟩
   ·rw[g5 b (by omega),g4 b (by omega)];exact a4 b hb
   ·rw[List.map_append];exact UO p2 λb hb1 hb2=>⟨by rw[AW.put_next];exact hb2,g5 b (by omega)⟩
  ·rintro l N x V hs hV;rcases hV with⟨rfl,a1,a2,a3,a4,out,a5,a6⟩|⟨-,hV⟩
   ·have gk:∀b,b≠W2.next->(V.kill W2.next).get b=V.get b:=λb hb=>AW.get_kill_ne _ (Ne.symm hb)
    have nk:(V.kill W2.next).next=V.next:=AW.kill_next _ _;generalize V.kill W2.next=U at gk nk;have x5:U.get W.next=some (.cells [out]):=by rw[gk _ (by omega)];exact a5
    have hU:Lst N U 2 oK out (l.map (·.2)):=UO a6 λb hb1 hb2=>⟨by omega,gk b (by omega)⟩
    have hleU:Le W U:=⟨by omega,λb hb=>by rw[gk b (by omega)];exact a4 b hb⟩;have hpe:(l.map (·.2)).Perm (xC n f):=by have:=hs.perm.map (·.2);rw[List.map_map]at this;exact this
    have hll:(l.map (·.2)).length=n:=by rw[List.length_map,a0K hs]
    generalize l.map (·.2)=l2' at hU hpe hll;by_cases hl0:l2'=[]
    ·subst hl0;have hout:out=.slice none 0 0:=by
      rcases hU with⟨-,e⟩|⟨e,-⟩
      ·exact e
      ·exact absurd rfl e
     subst hout;have hso:aL (.func (.func 78) #[] #[]) [.slice none 0 0,.func (.func 198) #[] #[]] U=some (.tuple #[],U):=vP (.inl ⟨none,0,_,rfl,rfl⟩);simp only[SX,lJ (o:=0) (dB x5) rfl,hso,aA];exact⟨[],⟨hpe,.nil⟩,hleU,.nil _ _ _ _⟩
    ·rcases hU with⟨e,-⟩|⟨-,B,b1,b2,rfl,b3⟩
     ·exact absurd e hl0
     ·obtain⟨l3,s1,s2,s3⟩:=Q0 (V:=U) (c:=bQ+2) hl0 (by omega) b3;have x6:(U.put B (.cells (l3.flatMap oK))).get W.next=some (.cells [.slice (some ⟨B,0,none⟩) l2'.length (bQ+2)]):=by rw[AW.get_put_ne _ _ (by omega)];exact x5
      simp only[SX,lJ (o:=0) (dB x5) rfl,s3,lJ (o:=0) (dB x6) rfl,aA];refine⟨l3,⟨s1.trans hpe,s2⟩,⟨by rw[AW.put_next];exact hleU.next,λb hb=>by rw[AW.get_put_ne _ _ (by omega)];exact hleU.get b hb⟩,.inr ⟨λe=>hl0 (by subst e;exact List.nil_perm.1 s1),B,by omega,by rw[AW.put_next];exact b2,by rw[s1.length_eq],AW.get_put _ _ _⟩⟩
   ·exact hV.elim
 obtain⟨⟨v,W'⟩,k0,l,k1,k2⟩:=main;obtain⟨v2,W2,k3,k4,k5⟩:=a1B ⟨(v,W'),k0,k2⟩ wG;exact⟨W2,v2,l,k3,k4,k5,k1.1,k1.2⟩
end
theorem g43:Tryz.prog.eqGuardType Tryz.prog.depth 42=false:=by kernel_rfl
theorem q43(a b a' b':Int):OX Tryz.prog 8 42 (.agg #[.int .i64 a,.int .i64 b]) (.agg #[.int .i64 a',.int .i64 b'])=OZ [(a,a'),(b,b')]:=by kernel_rfl
section
variable {W:AW} {In:Nat->Prop} {H q mh hm:Nat} {seats nx:Int} {n:Nat} {f:Nat->En}
end
def a8r(cs:List Value)(p:Nat)(x:Int×Int×Int):Prop:=cs[p]? =some (.int .u8 x.1)/\cs[p+1]? =some (.int .i64 x.2.1)/\cs[p+2]? =some (.int .i64 x.2.2)
abbrev Cas(W:AW)(v:Value)(l:List (Int×Int×Int)):Prop:=Row W 3 a8r v l
theorem Cas.get{W:AW}{v:Value}{l:List (Int×Int×Int)}(h:Cas W v l){i:Nat}(hi:i<l.length):
 ∃b o,(∀W' k,jS 3 v (.int k (i:Int)) W'=some (.pointer (some ⟨b,o,none⟩),W'))/\∀W',Le W W'->aR (.pointer (some ⟨b,o,none⟩)) W'=some (.int .u8 l[i].1,W')/\aR (.pointer (some ⟨b,o+1,none⟩)) W'=some (.int .i64 l[i].2.1,W')/\aR (.pointer (some ⟨b,o+2,none⟩)) W'=some (.int .i64 l[i].2.2,W'):=by
 obtain⟨b,o,cs,h1,h2,h3,h4,h5,h6⟩:=h.elem hi;refine⟨b,o,h1,λW' hle=>?_⟩;have hc:cellsAt W' b=some cs:=by rw[hle.cellsAt h2];exact h3
 exact⟨bU hc h4,bU hc h5,bU hc h6⟩
def OW(a b:Int×Int):Int:=if sK a.2 b.2=0 then sK a.1 b.1 else sK a.2 b.2
theorem KO(a b:Int×Int)(W:AW):lF (.func (.func 144) #[] #[]) [lG a,lG b] W=some (.int .i64 (OW a b),W)/\(OW a b<0<->lQ a b=true)/\(OW a b=0<->a=b):=by
 have key:lF (.func (.func 144) #[] #[]) [lG a,lG b] W=some (.int .i64 (OW a b),W):=by
  refine aT rfl ?_ wW;unfold pI;have oB:∀(v:Int×Int) W,eH (lG v) W=some (.pointer (some ⟨W.next,0,none⟩),W.add (.cells [.int .i64 v.1,.int .i64 v.2])):=λv W=>fH _
  generalize hW2:(W.add (.cells [.int .i64 a.1,.int .i64 a.2])).add (.cells [.int .i64 b.1,.int .i64 b.2])=W2;have n1:(W.add (.cells [.int .i64 a.1,.int .i64 a.2])).next=W.next+1:=AW.add_next _ _;have xa:W2.get W.next=some (.cells [.int .i64 a.1,.int .i64 a.2]):=by rw[<-hW2,AW.get_add_ne _ _ (by rw[n1];omega)];exact AW.get_add _ _
  have xb:W2.get (W.next+1)=some (.cells [.int .i64 b.1,.int .i64 b.2]):=by rw[<-hW2];have:=(W.add (.cells [.int .i64 a.1,.int .i64 a.2])).get_add (.cells [.int .i64 b.1,.int .i64 b.2]);rwa [n1]at this
  have l2:Le W W2:=by rw[<-hW2];exact((Le.refl _).add _).add _
  have hI:∀x y:Int,Ints (W2.add (.cells [.int .i64 x,.int .i64 y])) (.slice (some ⟨W2.next,0,none⟩) 2 2) [x,y]:=λx y=>QX [x,y] 2 W2
  have ho:=a3H (hI (sK a.2 b.2) (sK a.1 b.1));simp only[SX,oB,n1,hW2,Nat.zero_add,lJ (o:=1) (dB xa) rfl,lJ (o:=1) (dB xb) rfl,lJ (o:=0) (dB xa) rfl,lJ (o:=0) (dB xb) rfl,QA,IB,KC,Bool.and_self,UY,a6S,ho,aA];exact⟨rfl,l2.add _⟩
 refine⟨key,?_,?_⟩
 ·unfold lQ OW sK;simp only[Bool.or_eq_true,Bool.and_eq_true,decide_eq_true_eq];repeat' split
  all_goals omega
 ·rw[Prod.ext_iff];unfold OW sK;repeat' split
  all_goals omega
end Go.Proofs.YtnigceddndemkaaGreatDoor.Ho
namespace Go.Proofs.YtnigceddndemkaaGreatDoor
open Go Go.Eng Go.Hp
set_option maxRecDepth 100000
end Go.Proofs.YtnigceddndemkaaGreatDoor
namespace Go.Proofs.YtnigceddndemkaaGreatDoor.Ho
open Go Go.Eng Go.Hp
set_option maxRecDepth 100000
def Dif(l:List (Int×Int)):Prop:=(l.map (·.1)).Nodup
theorem Dif.perm{l m:List (Int×Int)}(h:Dif l)(hp:m.Perm l):Dif m:=((hp.map (λx:Int×Int=>x.1)).nodup_iff).2 h
theorem Dif.eq{l:List (Int×Int)}(h:Dif l){a b:Int×Int}(ha:a∈l)(hb:b∈l)(e:a.1=b.1):a=b:=by
 unfold Dif at h;rw[List.nodup_iff_pairwise_ne,List.pairwise_map]at h;by_cases hab:a=b
 ·exact hab
 ·obtain⟨i,hi,rfl⟩:=List.mem_iff_getElem.1 ha;obtain⟨j,hj,rfl⟩:=List.mem_iff_getElem.1 hb;rw[List.pairwise_iff_getElem]at h;rcases Nat.lt_trichotomy i j with hij|hij|hij
  ·exact absurd e (h i j hi hj hij)
  ·subst hij;rfl
  ·exact absurd e.symm (h j i hj hi hij)
section
variable {V:AW} {ov bv av:Value} {lo lb la:List (Int×Int)} {R:PlanTab.Fr} {now:Int} {ρ:Type} {K:LT->Option ρ} {G:ρ->Prop}
end
end Go.Proofs.YtnigceddndemkaaGreatDoor.Ho
namespace Go.Proofs.YtnigceddndemkaaGreatDoor
open Go Go.Eng
set_option maxRecDepth 100000
section
variable {α:Type} {z:Nat} {f:α->List Value}
theorem dW(hf:∀a,(f a).length=z){xs:List α}{j:Nat}{x:α}(h:xs[j]? =some x):xs.flatMap f=(xs.take j).flatMap f++(f x++(xs.drop (j+1)).flatMap f)/\((xs.take j).flatMap f).length=j*z:=by obtain⟨hi,e⟩:=List.getElem?_eq_some_iff.1 h;refine⟨?_,by rw[aN hf,List.length_take,Nat.min_eq_left (by omega)]⟩;rw[<-e,<-List.flatMap_cons,<-List.drop_eq_getElem_cons hi,<-List.flatMap_append,List.take_append_drop]
theorem mJ(hf:∀a,(f a).length=z){xs:List α}{j o:Nat}{x:α}(h:xs[j]? =some x)(ho:o<z):(xs.flatMap f)[j*z+o]? =(f x)[o]? :=by obtain⟨e1,e2⟩:=dW hf h;rw[e1,<-e2,List.getElem?_append_right (by omega),Nat.add_sub_cancel_left,List.getElem?_append_left (by rw[hf];exact ho)]
theorem JK(hf:∀a,(f a).length=z){xs:List α}{j:Nat}{x:α}(h:xs[j]? =some x):((xs.flatMap f).drop (j*z)).take z=f x:=by obtain⟨e1,e2⟩:=dW hf h;rw[e1,<-e2,List.drop_left,<-hf x,List.take_left]
theorem I6(hf:∀a,(f a).length=z){xs:List α}{j:Nat}{x:α}(h:xs[j]? =some x)(y:α):iB (xs.flatMap f) (j*z) (f y)=(xs.set j y).flatMap f:=by obtain⟨e1,e2⟩:=dW hf h;obtain⟨hi,-⟩:=List.getElem?_eq_some_iff.1 h;have e3:xs.set j y=xs.take j++y::xs.drop (j+1):=List.set_eq_take_append_cons_drop.trans (if_pos hi);unfold iB;rw[e3,List.flatMap_append,List.flatMap_cons,e1,<-e2,List.take_left,hf y,<-hf x,<-List.drop_drop,List.drop_left,List.drop_left,List.append_assoc]
end
theorem gN(x:SeT):(nI x).length=5:=rfl
theorem MZ(x:SeT):(nI x).all Eng.one=true:=rfl
def a2m(cs:List Value)(p:Nat)(x:SeT):Prop:=cs[p]? =some (.int .i64 x.st)/\cs[p+1]? =some (.int .u32 x.ow)/\cs[p+2]? =some (.int .i64 x.dl)/\cs[p+3]? =some (.int .u64 x.se)/\cs[p+4]? =some (.int .u64 x.ep)
abbrev SeL(W:AW)(v:Value)(l:List SeT):Prop:=Row W 5 a2m v l
theorem LF(x:SeT)(pre post:List Value):a2m (pre++(nI x++post)) pre.length x:=by
 have:∀i,(pre++(nI x++post))[pre.length+i]? =(nI x++post)[i]? :=λi=>by rw[List.getElem?_append_right (by omega),Nat.add_sub_cancel_left]
 exact⟨by have:=this 0;exact this,this 1,this 2,this 3,this 4⟩
theorem Lst.seats{lo:Nat}{W:AW}{v:Value}{l:List SeT}(h:Lst lo W 5 nI v l):SeL W v l:=h.row gN LF
theorem a3q{cs:List Value}{p:Nat}{x:SeT}(h:a2m cs p x):(cs.drop p).take 5=nI x:=by obtain⟨h0,h1,h2,h3,h4⟩:=h;obtain⟨i0,e0⟩:=List.getElem?_eq_some_iff.1 h0;obtain⟨i1,e1⟩:=List.getElem?_eq_some_iff.1 h1;obtain⟨i2,e2⟩:=List.getElem?_eq_some_iff.1 h2;obtain⟨i3,e3⟩:=List.getElem?_eq_some_iff.1 h3;obtain⟨i4,e4⟩:=List.getElem?_eq_some_iff.1 h4;rw[List.drop_eq_getElem_cons i0,List.drop_eq_getElem_cons i1,List.drop_eq_getElem_cons i2,List.drop_eq_getElem_cons i3,List.drop_eq_getElem_cons i4,e0,e1,e2,e3,e4];rfl
theorem SeL.get{W:AW}{v:Value}{l:List SeT}(h:SeL W v l){i:Nat}{x:SeT}(hi:l[i]? =some x):∃b o,b<W.next/\(∀W' k,jS 5 v (.int k (i:Int)) W'=some (.pointer (some ⟨b,o,none⟩),W'))/\
 (∀W',Le W W'->jV 5 (.pointer (some ⟨b,o,none⟩)) W'=some (GX x,W'))/\(∀W',Le W W'->aR (.pointer (some ⟨b,o,none⟩)) W'=some (.int .i64 x.st,W')):=by
 obtain⟨hi',e⟩:=List.getElem?_eq_some_iff.1 hi;obtain⟨b,o,cs,h1,h2,h3,h4⟩:=h.elem hi';rw[e]at h4;refine⟨b,o,h2,h1,λW' hle=>?_,λW' hle=>bU (by rw[hle.cellsAt h2];exact h3) h4.1⟩;rw[xA,hle.cellsAt h2,h3];simp only[Option.bind_some,a3q h4,gN,if_true]
theorem a4b:l8 Tryz.prog #[25,25] 5 40=true:=by kernel_rfl
theorem a8F(x:SeT)(W:AW):aX Tryz.prog 25 1 [(0,GX x)] W=some (.slice (some ⟨W.next,0,none⟩) 1 1,W.add (.cells (nI x))):=Eq.trans (by kernel_rfl) rfl
theorem a5Y(W:AW):aX Tryz.prog 25 0 [] W=some (.slice (some ⟨W.next,0,none⟩) 0 0,W.add (.cells [])):=Eq.trans (by kernel_rfl) rfl
theorem uE:((#[25]:Array TypeId)[0]?).bind Tryz.prog.underlying=some (.slice 38):=by kernel_rfl
def IP(l:List SeT)(j:Nat):SeT:=l.getD j se0
theorem A9{l:List SeT}{j:Nat}{x:SeT}(h:l[j]? =some x):IP l j=x:=by unfold IP;rw[List.getD_eq_getElem?_getD,h];rfl
theorem MR{l:List SeT}{j:Nat}(h:j<l.length):l[j]? =some (IP l j):=by rw[A9 (List.getElem?_eq_getElem h)];exact List.getElem?_eq_getElem h
def CF(n k i:Nat):Nat:=(n+k-1-i)/k
theorem iX{n k i j:Nat}(hi:i<k):j<CF n k i<->i+j*k<n:=by unfold CF;rw[Nat.lt_iff_add_one_le,Nat.le_div_iff_mul_le (by omega),Nat.add_mul,Nat.one_mul];omega
def dO(l:List SeT)(k i:Nat):List SeT:=(List.range (CF l.length k i)).map λj=>IP l (i+j*k)
theorem eP(l:List SeT)(k i:Nat):(dO l k i).length=CF l.length k i:=by simp[dO]
theorem kL{l:List SeT}{k i j:Nat}(hi:i<k)(hj:i+j*k<l.length):(dO l k i)[j]? =some (IP l (i+j*k)):=by unfold dO;rw[List.getElem?_map,List.getElem?_range ((iX hi).2 hj)];rfl
theorem vU(s k:Nat):s % k+s/k*k=s:=by rw[Nat.mul_comm];exact Nat.mod_add_div s k
theorem a2E{l:List SeT}{k s:Nat}{x:SeT}(hk:0<k)(hs:l[s]? =some x):(dO l k (s % k))[s/k]? =some x:=by obtain⟨h,-⟩:=List.getElem?_eq_some_iff.1 hs;rw[kL (Nat.mod_lt _ hk) (by rw[vU];exact h),vU,A9 hs]
theorem a2O{l:List SeT}{s j:Nat}{x:SeT}(hs:s<l.length):IP (l.set s x) j=if j=s then x else IP l j:=by
 unfold IP;rw[List.getD_eq_getElem?_getD,List.getD_eq_getElem?_getD,List.getElem?_set];by_cases c:s=j
 ·subst c;rw[if_pos rfl,if_pos hs,if_pos rfl];rfl
 ·rw[if_neg c,if_neg (λe=>c e.symm)]
theorem a1T{l:List SeT}{k s i:Nat}(hi:i<k){x:SeT}(hs:s<l.length):dO (l.set s x) k i=if s % k=i then(dO l k i).set (s/k) x else dO l k i:=by
 apply List.ext_getElem?;intro j;have hlen:(dO (l.set s x) k i).length=(dO l k i).length:=by rw[eP,eP,List.length_set]
 by_cases hj:i+j*k<l.length;case neg=>
  have h1:(dO l k i).length<=j:=by rw[eP];have:=(not_congr (iX (n:=l.length) (j:=j) hi)).2 hj;omega
  rw[List.getElem?_eq_none (by omega)];split
  ·rw[List.getElem?_eq_none (by rw[List.length_set];exact h1)]
  ·rw[List.getElem?_eq_none h1]
 rw[kL hi (by rw[List.length_set];exact hj),a2O hs];have hkp:0<k:=by omega
 by_cases c:s % k=i
 ·rw[if_pos c,List.getElem?_set];by_cases c2:s/k=j
  ·have:i+j*k=s:=by rw[<-c,<-c2];exact vU s k
   rw[if_pos this,if_pos c2,if_pos (by rw[eP,c2];exact(iX hi).2 hj)]
  ·have:i+j*k≠s:=λe=>c2 (by rw[<-e,Nat.add_mul_div_right _ _ hkp,Nat.div_eq_of_lt hi,Nat.zero_add])
   rw[if_neg this,if_neg c2,kL hi hj]
 ·have:i+j*k≠s:=λe=>c (by rw[<-e,Nat.add_mul_mod_self_right,Nat.mod_eq_of_lt hi])
  rw[if_neg this,if_neg c,kL hi hj]
theorem WP{l:List SeT}{k i:Nat}(hi:i<k)(x:SeT):dO (l++[x]) k i=if l.length % k=i then dO l k i++[x]else dO l k i:=by
 have hkp:0<k:=by omega
 have key:∀j,i+j*k=l.length<->l.length % k=i/\j=l.length/k:=λj=>by
  constructor
  ·intro e;rw[<-e,Nat.add_mul_mod_self_right,Nat.mod_eq_of_lt hi,Nat.add_mul_div_right _ _ hkp,Nat.div_eq_of_lt hi,Nat.zero_add];exact⟨rfl,rfl⟩
  ·rintro⟨h1,h2⟩;rw[<-h1,h2];exact vU _ _
 have hst:∀j,j<l.length->IP (l++[x]) j=IP l j:=λj hj=>by have:=MR hj;exact A9 (by rw[List.getElem?_append_left hj];exact this)
 apply List.ext_getElem?;intro j;by_cases h1:i+j*k<l.length
 ·rw[kL hi (by simp;omega),hst _ h1];split
  ·rw[List.getElem?_append_left (by rw[eP];exact(iX hi).2 h1),kL hi h1]
  ·rw[kL hi h1]
 ·have h2:(dO l k i).length<=j:=by rw[eP];have:=(not_congr (iX (n:=l.length) (j:=j) hi)).2 h1;omega
  by_cases h3:i+j*k=l.length
  ·obtain⟨a1,a2⟩:=(key j).1 h3;have hl:(dO l k i).length=j:=by rw[eP];apply Nat.le_antisymm (by rw[eP]at h2;exact h2);apply Nat.le_of_not_lt;intro h4;have:=(not_congr (iX (n:=l.length) (j:=CF l.length k i) hi)).1 (Nat.lt_irrefl _);have h5:(CF l.length k i+1)*k<=j*k:=Nat.mul_le_mul_right _ h4;rw[Nat.add_mul,Nat.one_mul]at h5;omega
   rw[if_pos a1,kL hi (by simp;omega),h3,A9 (l:=l++[x]) (j:=l.length) (x:=x) (by simp),<-hl];simp
  ·have h4:¬i+j*k<(l++[x]).length:=by simp;omega
   rw[List.getElem?_eq_none (by rw[eP];have:=(not_congr (iX (n:=(l++[x]).length) (j:=j) hi)).2 h4;omega)];split
   ·rename_i a1;rw[List.getElem?_eq_none];rw[List.length_append];rcases Nat.lt_or_ge (dO l k i).length j with h5|h5
    ·simp;omega
    ·exfalso;have h6:(dO l k i).length=j:=by omega
     rw[eP]at h6;have h7:=vU l.length k;rw[a1]at h7;have h8:¬l.length/k<CF l.length k i:=(not_congr (iX hi)).2 (by omega);have h9:l.length/k<=j:=by apply Nat.le_of_not_lt;intro h9;have:=(not_congr (iX (n:=l.length) (j:=j) hi)).1 (by omega);have h10:(j+1)*k<=l.length/k*k:=Nat.mul_le_mul_right _ h9;rw[Nat.add_mul,Nat.one_mul]at h10;omega
     have h10:j<=l.length/k:=by omega
     have:j=l.length/k:=by omega
     exact h3 ((key j).2 ⟨a1,this⟩)
   ·rw[List.getElem?_eq_none h2]
def PZ(l:List SeT)(p:Nat->Bool)(j:Nat):Bool:=p j&&decide ((IP l j).st=1)
def a1t(l:List SeT)(j:Nat):Int×Int:=((j:Int),(IP l j).dl)
def fK(l:List SeT)(p:Nat->Bool):List (Int×Int):=((List.range l.length).filter (PZ l p)).map (a1t l)
theorem nG{l:List SeT}{p:Nat->Bool}{e:Int×Int}:e∈fK l p<->∃j,j<l.length/\p j=true/\(IP l j).st=1/\e=a1t l j:=by
 unfold fK PZ;simp only[List.mem_map,List.mem_filter,List.mem_range,Bool.and_eq_true,decide_eq_true_eq];constructor
 ·rintro⟨j,⟨h1,h2,h3⟩,h4⟩;exact⟨j,h1,h2,h3,h4.symm⟩
 ·rintro⟨j,h1,h2,h3,h4⟩;exact⟨j,⟨h1,h2,h3⟩,h4.symm⟩
theorem qJ(l:List SeT)(p:Nat->Bool):(fK l p).length<=l.length:=by unfold fK;rw[List.length_map];have:=List.length_filter_le (PZ l p) (List.range l.length);rwa [List.length_range]at this
theorem F8(l:List SeT)(p:Nat->Bool):(fK l p).Nodup:=by unfold fK;refine List.Pairwise.map (R:=λa b:Nat=>a≠b) (a1t l) ?_ (List.nodup_range.filter _);intro a b h e;unfold a1t at e;injection e with e1 e2;omega
theorem Y4(l:List SeT)(x:SeT)(p:Nat->Bool):fK (l++[x]) p=fK l p++(if p l.length=true/\x.st=1 then [((l.length:Int),x.dl)]else []):=by
 have hst:∀j,j<l.length->IP (l++[x]) j=IP l j:=λj hj=>by have:=MR hj;exact A9 (by rw[List.getElem?_append_left hj];exact this)
 have hx:IP (l++[x]) l.length=x:=A9 (by simp);unfold fK;rw[List.length_append,List.length_singleton,List.range_succ,List.filter_append,List.map_append];congr 1
 ·have e:(List.range l.length).filter (PZ (l++[x]) p)=(List.range l.length).filter (PZ l p):=List.filter_congr λj hj=>by unfold PZ;rw[hst j (List.mem_range.1 hj)]
  rw[e];refine List.map_congr_left λj hj=>?_
  unfold a1t;rw[hst j (List.mem_range.1 (List.mem_filter.1 hj).1)]
 ·have e:PZ (l++[x]) p l.length=(p l.length&&decide (x.st=1)):=by unfold PZ;rw[hx]
  by_cases c:p l.length=true/\x.st=1
  ·rw[if_pos c,List.filter_cons_of_pos (by rw[e,c.1,decide_eq_true c.2];rfl)];show [((l.length:Int),(IP (l++[x]) l.length).dl)]=_;rw[hx]
  ·rw[if_neg c,List.filter_cons_of_neg (by rw[e];simpa using c)];rfl
theorem CB:((#[22]:Array TypeId)[0]?).bind Tryz.prog.underlying=some (.slice 130):=by kernel_rfl
def pE(n lo hi:Int):Bool:=decide (n<lo)||decide (hi<n)
theorem mM(n lo hi:Int)(W:AW):aL (.func (.func 187) #[] #[]) [.int .i64 n,.int .i64 lo,.int .i64 hi] W=some (.bool (pE n lo hi),W):=by
 have h:mH aL (.int .i64 n) (.int .i64 lo) (.int .i64 hi) W=some (.bool (pE n lo hi),W):=by unfold mH pE;by_cases h:n<lo<;>simp only[SX,h,Bool.true_or,Bool.false_or]
 rw[wH h,LH (.refl _)]
theorem sQ(n lo hi:Int)(W:AW):aL (.func (.func 188) #[] #[]) [.int .i64 n,.int .i64 lo,.int .i64 hi] W=some (.bool (pE n lo hi),W):=by
 have h:jI aL (.int .i64 n) (.int .i64 lo) (.int .i64 hi) W=some (.bool (pE n lo hi),W):=by unfold jI pE;by_cases h:n<lo<;>simp only[SX,h,Bool.true_or,Bool.false_or]
 rw[tJ h,LH (.refl _)]
def inB(n lo hi:Int):Bool:=decide (lo<=n)&&decide (n<=hi)
theorem un9:Tryz.prog.underlying 9=some .string:=by kernel_rfl
theorem FY:((#[9]:Array TypeId)[0]?).bind Tryz.prog.underlying=some .string:=by kernel_rfl
def jL(l:List UInt8):List Value:=(List.range 256).map λi=>.bool (l.any λc=>c.toNat==i)
theorem jE(l:List UInt8):(jL l).length=256:=by simp[jL]
theorem FT(l:List UInt8){i:Nat}(h:i<256):(jL l)[i]? =some (.bool (l.any λc=>c.toNat==i)):=by simp[jL,h]
theorem PM(l:List UInt8):(jL l).all Eng.one=true:=by unfold jL;rw[List.all_map,List.all_eq_true];intro x _;rfl
theorem TN(l:List UInt8):(aU (.tuple #[.agg (jL l).toArray,.bool true])&& !isU (.tuple #[.agg (jL l).toArray,.bool true]))=true:=by
 have h:iT (.agg (jL l).toArray)=true:=by show(jL l).toArray.toList.all bS=true;unfold jL;rw[List.toList_toArray,List.all_map,List.all_eq_true];intro x _;rfl
 have h2:aU (.tuple #[.agg (jL l).toArray,.bool true])=true:=by show(iT (.agg (jL l).toArray)&&(iT (.bool true)&&true))=true;rw[h];rfl
 rw[h2];rfl
theorem ZI(l:List UInt8)(c:UInt8):(jL l).set c.toNat (.bool true)=jL (l++[c]):=by
 apply List.ext_getElem?;intro i;by_cases hi:i<256
 ·rw[List.getElem?_set,FT _ hi,FT _ hi,jE];by_cases hc:c.toNat=i
  ·rw[if_pos hc,if_pos (by omega)];simp[hc]
  ·rw[if_neg hc];have:(c.toNat==i)=false:=by simpa using hc
   simp[this]
 ·rw[List.getElem?_eq_none (by rw[List.length_set,jE];omega),List.getElem?_eq_none (by rw[jE];omega)]
theorem a3B(W:AW):dP Tryz.prog 398 W=some (.pointer (some ⟨W.next,0,none⟩),W.add (.cells (jL []))):=Eq.trans (by kernel_rfl) rfl
theorem a7g(x:Value)(W:AW):PH Tryz.prog 398 x W=jV 256 x W:=by kernel_rfl
theorem KM{b:Nat}{l:List UInt8}{W:AW}(hb:cellsAt W b=some (jL l))(c:UInt8):aL (.func (.func 327) #[] #[]) [.pointer (some ⟨b,0,none⟩),.int .u8 (c.toNat:Int)] W=some (.bool (l.any λx=>x==c),W):=by refine aT rfl ?_ nR;unfold j4;have hc:c.toNat<256:=c.toNat_lt;simp only[SX,aI,a0i hc,a4H,hb,Option.bind_some,Nat.mul_one,Nat.zero_add,FT l hc,Option.map_some,aA];refine⟨?_,.refl _⟩;congr 2;funext x;rw[Bool.eq_iff_iff];simp[UInt8.toNat_inj]
theorem a1W{l:List UInt8}(hl:l.length<1000)(ha:∀c∈l,c.toNat<128)(W:AW):aL (.func (.func 305) #[] #[]) [.string (aJ l)] W=some (.tuple #[.agg (jL l).toArray,.bool true],W):=by
 refine aT (TN l) ?_ qW;unfold mX;simp only[SX,a3B];refine bR l.length (by omega) (λk R W'=>R 0=.string (aJ l)/\R 2=.pointer (some ⟨W.next,0,none⟩)/\R 4=.int .i64 (k:Int)/\rwCells W' W.next=some (jL (l.take k))/\Le W W')
  (λr=>r.1=.exit 0/\r.2.1 2=.pointer (some ⟨W.next,0,none⟩)/\rwCells r.2.2 W.next=some (jL l)/\Le W r.2.2) ⟨rfl,rfl,rfl,fG,(Le.refl _).add _⟩ ?_ ?_ ?_
 ·rintro k R W' hk ⟨h0,h2,h4,hb,hle⟩;unfold fZ;have hc:l[k].toNat<128:=ha _ (List.getElem_mem hk);have e1:((k:Int)<(l.length:Int)):=by omega
  have e2:¬(128:Int)<=(l[k].toNat:Int):=by omega
  simp only[SX,h0,h2,h4,kH FY,e1,vS un9 hk,e2,a0i (show l[k].toNat<256 by omega),a0d,hb,Option.bind_some,Nat.mul_one,Nat.zero_add,jE,show l[k].toNat<256 by omega,if_true,ZI,
   bA (show -9223372036854775808<=(k:Int)+1 by omega) (show(k:Int)+1<9223372036854775808 by omega),aA];have e2:(k:Int)+1=((k+1:Nat):Int):=by omega
  refine .inl ⟨trivial,h0,h2,by rw[<-e2];rfl,?_,hle.put (Nat.le_refl _) _⟩;rw[pX,<-List.take_append_getElem hk]
 ·rintro R W' ⟨h0,h2,h4,hb,hle⟩;unfold fZ;have e1:¬((l.length:Int)<(l.length:Int)):=by omega
  simp only[SX,h0,h2,h4,kH FY,e1,aA];rw[List.take_length]at hb;exact⟨by simp,trivial,h2,hb,hle⟩
 ·rintro⟨x,R,W'⟩ ⟨rfl,h2,hb,hle⟩;simp only at h2 hb hle;have h1:=a2Q hb (PM l);rw[jE]at h1;have h3:=vT (fE hb) (jE l);have h4:=vT (W:=W'.put W.next (.cells (jL l))) (CG _) (jE l);simp only[SX,h2,h3,h1,I8,a7g,h4,Option.bind_some,aA];exact⟨trivial,hle.put (Nat.le_refl _) _⟩
def tT(p:UInt8->Bool)(l:List UInt8):List UInt8:=(l.reverse.dropWhile p).reverse
theorem yS{p:UInt8->Bool}:∀{l:List UInt8} {k:Nat},(∀c∈l.take k,p c=true)->(l.drop k).dropWhile p=l.dropWhile p
 |l,0,_=>by simp
 |[],k+1,_=>by simp
 |c::l,k+1,h=>by have hc:p c=true:=h c (by simp);rw[List.drop_succ_cons,List.dropWhile_cons,if_pos hc];exact yS λd hd=>h d (by simp[hd])
abbrev pO(S:List UInt8)(c:UInt8):Bool:=S.any λx=>x==c
theorem ZK{b:Nat}{S l:List UInt8}{W:AW}(hb:cellsAt W b=some (jL S))(hl:l.length<1000):aL (.func (.func 306) #[] #[]) [.string (aJ l),.pointer (some ⟨b,0,none⟩)] W=some (.string (aJ (l.dropWhile (pO S))),W):=by
 refine aT rfl ?_ qH;unfold lI;simp only[SX];refine bR l.length (by omega) (λk R W'=>W'=W/\R 0=.string (aJ (l.drop k))/\R 1=.pointer (some ⟨b,0,none⟩)/\∀c∈l.take k,pO S c=true)
  (λr=>r.2.2=W/\r.1=.exit 0/\r.2.1 0=.string (aJ (l.dropWhile (pO S)))) ⟨rfl,rfl,rfl,by simp⟩ ?_ ?_ ?_
 ·rintro k R W' hk ⟨rfl,h0,h1,ha⟩;unfold fM;have hd:l.drop k=l[k]::l.drop (k+1):=List.drop_eq_getElem_cons hk;have e1:(0:Int)<((l.drop k).length:Int):=by rw[List.length_drop];omega
  have e0:iJ Tryz.prog 9 (.string (aJ (l.drop k))) (.int .i64 0) W'=some (.int .u8 (l[k].toNat:Int),W'):=by have:=vS (P:=Tryz.prog) (W:=W') (k:=.i64) un9 (l:=l.drop k) (i:=0) (by rw[List.length_drop];omega);simpa using this
  have e3:bL Tryz.prog 9 (.string (aJ (l.drop k))) (some (.int .i64 1)) none none W'=some (.string (aJ (l.drop (k+1))),W'):=by have:=a0x (P:=Tryz.prog) (W:=W') (k:=.i64) un9 (l:=l.drop k) (a:=1) (by rw[List.length_drop];omega);rw[List.drop_drop]at this;exact this
  simp only[SX,h0,h1,kH FY,e1,e0,KM hb,e3];cases hp:pO S l[k]
  ·simp only[SX,show(S.any λx=>x==l[k])=false from hp,aA];refine .inr ⟨by simp,trivial,trivial,?_⟩;show R 0=_;rw[h0,<-yS ha,hd,List.dropWhile_cons,hp];rfl
  ·simp only[SX,show(S.any λx=>x==l[k])=true from hp,aA];refine .inl ⟨trivial,trivial,rfl,h1,?_⟩;rw[<-List.take_append_getElem hk];intro c hc;rcases List.mem_append.1 hc with h|h
   ·exact ha c h
   ·rw[List.mem_singleton.1 h];exact hp
 ·rintro R W' ⟨rfl,h0,h1,ha⟩;unfold fM;rw[List.drop_length]at h0;have e1:¬(0:Int)<(([]:List UInt8).length:Int):=by simp
  simp only[SX,h0,h1,kH FY,e1,aA];refine⟨by simp,trivial,trivial,?_⟩;show R 0=_;rw[h0,<-yS ha,List.drop_length];rfl
 ·rintro⟨x,R,W'⟩ ⟨hW,hx,h0⟩;simp only at hW hx h0;subst hW hx;simp only[SX,aA,h0];exact⟨trivial,.refl _⟩
theorem FK{p:UInt8->Bool}{l:List UInt8}{n:Nat}(h:∀c∈l.drop n,p c=true):tT p (l.take n)=tT p l:=by
 unfold tT;have h2:l.reverse=(l.drop n).reverse++(l.take n).reverse:=by rw[<-List.reverse_append,List.take_append_drop]
 have h3:=yS (p:=p) (l:=l.reverse) (k:=(l.drop n).reverse.length) (by rw[h2,List.take_left];intro c hc;exact h c (List.mem_reverse.1 hc));rw[<-h3,h2,List.drop_left]
theorem a0Q{b:Nat}{S l:List UInt8}{W:AW}(hb:cellsAt W b=some (jL S))(hl:l.length<1000):aL (.func (.func 307) #[] #[]) [.string (aJ l),.pointer (some ⟨b,0,none⟩)] W=some (.string (aJ (tT (pO S) l)),W):=by
 refine aT rfl ?_ pQ;unfold kZ;simp only[SX];refine bR l.length (by omega) (λk R W'=>W'=W/\R 0=.string (aJ (l.take (l.length-k)))/\R 1=.pointer (some ⟨b,0,none⟩)/\∀c∈l.drop (l.length-k),pO S c=true)
  (λr=>r.2.2=W/\r.1=.exit 0/\r.2.1 0=.string (aJ (tT (pO S) l))) ⟨rfl,by simp;rfl,rfl,by simp⟩ ?_ ?_ ?_
 ·rintro k R W' hk ⟨rfl,h0,h1,ha⟩;unfold fB;obtain⟨m,hm⟩:∃m,l.length-k=m+1:=⟨l.length-k-1,by omega⟩;have hm2:l.length-(k+1)=m:=by omega
  have hml:m<l.length:=by omega
  rw[hm]at h0 ha;have hlen:(l.take (m+1)).length=m+1:=by rw[List.length_take];omega
  have e1:(0:Int)<(((m+1:Nat):Int)):=by omega
  have e2:((m+1:Nat):Int)-1=(m:Int):=by omega
  have e0:iJ Tryz.prog 9 (.string (aJ (l.take (m+1)))) (.int .i64 (m:Int)) W'=some (.int .u8 (l[m].toNat:Int),W'):=by have:=vS (P:=Tryz.prog) (W:=W') (k:=.i64) un9 (l:=l.take (m+1)) (i:=m) (by rw[List.length_take];omega);simpa using this
  have e3:bL Tryz.prog 9 (.string (aJ (l.take (m+1)))) none (some (.int .i64 (m:Int))) none W'=some (.string (aJ (l.take m)),W'):=by have:=a4f (P:=Tryz.prog) (W:=W') (k:=.i64) un9 (l:=l.take (m+1)) (a:=m) (by rw[List.length_take];omega);rw[List.take_take,Nat.min_eq_left (by omega)]at this;exact this
  have es:=zR (P:=Tryz.prog) (W:=W') (t:=3) (c:=false) (d:=true) (a:=((m+1:Nat):Int)) (b:=1) (by omega) (by omega);rw[e2]at es;simp only[SX,h0,h1,kH FY,hlen,e1,es,e0,KM hb,e3];cases hp:pO S l[m]
  ·simp only[SX,show(S.any λx=>x==l[m])=false from hp,aA];refine .inr ⟨by simp,trivial,trivial,?_⟩;show R 0=_;rw[h0,<-FK ha,<-List.take_append_getElem hml];unfold tT;rw[List.reverse_append,List.reverse_singleton,List.singleton_append,List.dropWhile_cons,hp];simp
  ·simp only[SX,show(S.any λx=>x==l[m])=true from hp,aA];refine .inl ⟨trivial,trivial,by rw[hm2];rfl,h1,?_⟩;rw[hm2,List.drop_eq_getElem_cons hml];intro c hc;rcases List.mem_cons.1 hc with h|h
   ·rw[h];exact hp
   ·exact ha c h
 ·rintro R W' ⟨rfl,h0,h1,ha⟩;unfold fB;rw[Nat.sub_self,List.take_zero]at h0;rw[Nat.sub_self,List.drop_zero]at ha;have e1:¬(0:Int)<(([]:List UInt8).length:Int):=by simp
  simp only[SX,h0,h1,kH FY,e1,aA];refine⟨by simp,trivial,trivial,?_⟩;show R 0=_;rw[h0,<-FK (n:=0) (by simpa using ha)];rfl
 ·rintro⟨x,R,W'⟩ ⟨hW,hx,h0⟩;simp only at hW hx h0;subst hW hx;simp only[SX,aA,h0];exact⟨trivial,.refl _⟩
theorem BZ{p:UInt8->Bool}:∀{l:List UInt8},l.dropWhile p=[]<->∀c∈l,p c=true
 |[]=>by simp
 |c::l=>by
  rw[List.dropWhile_cons];cases hp:p c
  ·simp[hp]
  ·simp[hp,BZ]
theorem a1c{p:UInt8->Bool}{l:List UInt8}:(((tT p l).dropWhile p)==[])=l.all p:=by
 rw[Bool.eq_iff_iff,beq_iff_eq,BZ,List.all_eq_true];unfold tT;constructor
 ·intro h;have h2:l.reverse.dropWhile p=[]:=by
   cases hd:l.reverse.dropWhile p with
   |nil=>rfl
   |cons x xs=>have:=List.head_dropWhile_not (p:=p) (l:=l.reverse) (by rw[hd];simp);rw[hd]at h;have h3:=h x (by simp);simp only[hd,List.head_cons]at this;rw[h3]at this;cases this
  rw[BZ]at h2;exactλc hc=>h2 c (List.mem_reverse.2 hc)
 ·intro h c hc;exact h c (by have:=List.mem_reverse.1 hc;have:=(List.dropWhile_sublist p).subset this;exact List.mem_reverse.1 this)
def charsN:List Nat:=[97,98,99,100,101,102,103,104,105,106,107,108,109,110,111,112,113,114,115,116,117,118,119,120,121,122,48,49,50,51,52,53,54,55,56,57,45]
def charsL:List UInt8:=charsN.map UInt8.ofNat
theorem X3:∀n,n<256->pO charsL (UInt8.ofNat n)=V9 (UInt8.ofNat n):=by decide+kernel
theorem R3(c:UInt8):pO charsL c=V9 c:=by have:=X3 c.toNat c.toNat_lt;rwa [UInt8.ofNat_toNat]at this
theorem a13{l:List UInt8}(hl:l.length<1000)(h0:l≠[])(W:AW):aL (.func (.func 271) #[] #[]) [.string (aJ l),FM charsN] W=some (.string (aJ ((tT (pO charsL) l).dropWhile (pO charsL))),W):=by
 refine aT rfl ?_ DZ;unfold zB;have hs:=a1W (l:=charsL) (by decide) (by decide+kernel) W;have e1:(l==[])=false:=by simpa using h0
 have e2:(charsL==[])=false:=by decide+kernel
 have e3:¬((charsL.length:Int)=1):=by decide+kernel
 have hz:(jL []).length=256:=jE [];have hst:mY 256 (.pointer (some ⟨W.next,0,none⟩)) (.agg (jL charsL).toArray) (W.add (.cells (jL [])))=some (undef,(W.add (.cells (jL []))).put W.next (.cells (jL charsL))):=by rw[zO,fG];simp only[Option.bind_some,List.size_toArray,jE,Nat.zero_add,Nat.le_refl,PM,and_self,if_true,iB,List.take_zero,List.nil_append];rw[List.drop_of_length_le (by simp[jE]),List.append_nil]
 have hc:cellsAt ((W.add (.cells (jL []))).put W.next (.cells (jL charsL))) W.next=some (jL charsL):=CG _;have hr:=a0Q (l:=l) hc hl;have hlt:(tT (pO charsL) l).length<1000:=by have:=(List.dropWhile_sublist (pO charsL) (l:=l.reverse)).length_le;unfold tT;rw[List.length_reverse];rw[List.length_reverse]at this;omega
 have hL:=ZK hc hlt;show Ok _ _;rw[xL];change aL (.func (.func 305) #[] #[]) [.string (aJ (charsN.map UInt8.ofNat))] W=_ at hs;simp only[SX,xL,List.map_nil,sF,e1,kH FY];simp only[SX,show(charsN.map UInt8.ofNat==[])=false from e2,show¬(((charsN.map UInt8.ofNat).length:Int)=1)from e3,hs,a3B,hst,hr,hL,aA];exact⟨trivial,((Le.refl _).add _).put (Nat.le_refl _) _⟩
theorem rG(l:List UInt8)(W:AW):aL (.func (.func 233) #[] #[]) [.string (aJ l)] W=some (.bool (CX l),W):=by
 refine aT rfl ?_ J2;unfold IA;cases l with
 |nil=>simp only[SX,xL,List.map_nil,sF,BEq.rfl,aA];exact⟨rfl,.refl _⟩
 |cons c l=>
  have e1:(c::l==[])=false:=rfl;have e0:iJ Tryz.prog 9 (.string (aJ (c::l))) (.int .i64 0) W=some (.int .u8 (c.toNat:Int),W):=by have:=vS (P:=Tryz.prog) (W:=W) (k:=.i64) un9 (l:=c::l) (i:=0) (by simp);simpa using this
  by_cases h1:(16:Int)<(((c::l).length:Nat):Int)
  ·simp only[SX,xL,List.map_nil,sF,e1,kH FY,h1,aA];refine⟨?_,.refl _⟩;have:decide ((c::l).length<=16)=false:=by simpa using(by omega:¬((c::l).length<=16))
   simp only[CX,this,Bool.and_false,Bool.false_and]
  ·have h16:decide ((c::l).length<=16)=true:=by simpa using(by omega:((c::l).length<=16))
   by_cases h2:(c.toNat:Int)<97
   ·simp only[SX,xL,List.map_nil,sF,e1,kH FY,h1,e0,h2,aA];refine⟨?_,.refl _⟩;have:decide (97<=c.toNat)=false:=by simpa using(by omega:¬(97<=c.toNat))
    simp only[CX,this,Bool.and_false,Bool.false_and]
   ·by_cases h3:(122:Int)<(c.toNat:Int)
    ·simp only[SX,xL,List.map_nil,sF,e1,kH FY,h1,e0,h2,h3,aA];refine⟨?_,.refl _⟩;have:decide (c.toNat<=122)=false:=by simpa using(by omega:¬(c.toNat<=122))
     simp only[CX,this,Bool.and_false,Bool.false_and]
    ·have ht:=a13 (l:=c::l) (by omega) (by simp) W;have hv:(FM [97,98,99,100,101,102,103,104,105,106,107,108,109,110,111,112,113,114,115,116,117,118,119,120,121,122,48,49,50,51,52,53,54,55,56,57,45])=FM charsN:=rfl;rw[hv];simp only[SX,xL [],List.map_nil,sF,e1,kH FY,h1,e0,h2,h3,ht,a1c,aA];refine⟨?_,.refl _⟩;have i1:decide (97<=c.toNat)=true:=by simpa using(by omega:(97<=c.toNat))
     have i2:decide (c.toNat<=122)=true:=by simpa using(by omega:(c.toNat<=122))
     have i3:pO charsL=V9:=funext R3;simp only[CX,i1,i2,i3,h16,Bool.true_and]
def a9S(c:UInt8):Bool:=decide (97<=c.toNat)&&decide (c.toNat<=122)
def a9x(c:UInt8):Bool:=decide (48<=c.toNat)&&decide (c.toNat<=57)
structure Sec where
 name:List UInt8
 rows:List Int
 q:Int
structure Ven where
 sh:Int
 ttl:Int
 ses:Int
 secs:List Sec
def VZ(W:AW)(cs:List Value)(p:Nat)(s:Sec):Prop:=cs[p]? =some (.string (aJ s.name))/\cs[p+2]? =some (.int .i64 s.q)/\∃rv,cs[p+1]? =some rv/\Ints W rv s.rows
abbrev Secs(W:AW)(v:Value)(l:List Sec):Prop:=Row W 3 (VZ W) v l
theorem Row.imp{α:Type}{W W':AW}{z:Nat}{f g:List Value->Nat->α->Prop}{v:Value}{l:List α}(h:Row W z f v l)(hle:Le W W')(hfg:∀cs p a,f cs p a->g cs p a):Row W' z g v l:=by
 obtain⟨a,c,rfl,k⟩:=h.mono hle;refine⟨a,c,rfl,?_⟩;rcases k with h|⟨b,o,cs,h1,h2,h3,h4⟩
 ·exact .inl h
 ·exact .inr ⟨b,o,cs,h1,h2,h3,λi hi=>hfg _ _ _ (h4 i hi)⟩
theorem Secs.mono{W W':AW}{v:Value}{l:List Sec}(h:Secs W v l)(hle:Le W W'):Secs W' v l:=
 Row.imp h hle λcs p s ⟨h1,h2,rv,h3,h4⟩=>⟨h1,h2,rv,h3,h4.mono hle⟩
theorem a1E{cs:List Value}{p:Nat}{a b c:Value}(h0:cs[p]? =some a)(h1:cs[p+1]? =some b)(h2:cs[p+2]? =some c):(cs.drop p).take 3=[a,b,c]:=by obtain⟨i0,e0⟩:=List.getElem?_eq_some_iff.1 h0;obtain⟨i1,e1⟩:=List.getElem?_eq_some_iff.1 h1;obtain⟨i2,e2⟩:=List.getElem?_eq_some_iff.1 h2;rw[List.drop_eq_getElem_cons i0,List.drop_eq_getElem_cons i1,List.drop_eq_getElem_cons i2,e0,e1,e2];rfl
abbrev QB(s:Sec)(rv:Value):Value:=.agg #[.string (aJ s.name),rv,.int .i64 s.q]
theorem Secs.get{W:AW}{v:Value}{l:List Sec}(h:Secs W v l){i:Nat}(hi:i<l.length):∃b o rv,(∀W' k,jS 3 v (.int k (i:Int)) W'=some (.pointer (some ⟨b,o,none⟩),W'))/\Ints W rv l[i].rows/\
 (∀W',Le W W'->jV 3 (.pointer (some ⟨b,o,none⟩)) W'=some (QB l[i] rv,W'))/\(∀W',Le W W'->aR (.pointer (some ⟨b,o,none⟩)) W'=some (.string (aJ l[i].name),W'))/\
 (∀W',Le W W'->aR (.pointer (some ⟨b,o+1,none⟩)) W'=some (rv,W'))/\(∀W',Le W W'->aR (.pointer (some ⟨b,o+2,none⟩)) W'=some (.int .i64 l[i].q,W')):=by
 obtain⟨b,o,cs,h1,h2,h3,h4,h5,rv,h6,h7⟩:=h.elem hi;refine⟨b,o,rv,h1,h7,λW' hle=>?_,λW' hle=>bU (by rw[hle.cellsAt h2];exact h3) h4,λW' hle=>bU (by rw[hle.cellsAt h2];exact h3) h6,λW' hle=>bU (by rw[hle.cellsAt h2];exact h3) h5⟩;rw[xA,hle.cellsAt h2,h3];simp only[Option.bind_some,a1E h4 h6 h5,List.length_cons,List.length_nil,if_true]
def xU(s:Sec)(before:List Sec):Int:=
 if CX s.name=false then 6 else if(before.any λx=>x.name==s.name)=true then 8 else if s.rows.length=0 then 6 else if 16<s.rows.length then 3 else
 if(s.rows.any λn=>pE n 1 64)=true then 7 else if pE s.q 0 64=true then 7 else 0
def o6(l:List Sec):Nat->Option (Nat×Int)
 |0=>none
 |k+1=>match o6 l k with
  |some r=>some r
  |none=>match l[k]? with
   |some s=>if xU s (l.take k)=0 then none else some (k,xU s (l.take k))
   |none=>none
theorem AQ{l:List Sec}{k n:Nat}{r:Nat×Int}(h:o6 l k=some r)(hn:k<=n):o6 l n=some r:=by
 induction n with
 |zero=>obtain rfl:k=0:=by omega
        exact h
 |succ n ih=>
  by_cases hk:k=n+1
  ·rw[<-hk];exact h
  ·show(match o6 l n with|some r=>some r|none=>_)=_;rw[ih (by omega)]
def iY(l:List Int):Int:=l.foldr (· + ·) 0
theorem a0r(l:List Int)(n:Int):iY (l++[n])=iY l+n:=by
 induction l with
 |nil=>simp[iY]
 |cons a l ih=>simp only[iY,List.cons_append,List.foldr_cons]at ih|-;omega
def bW(l:List Sec):Int:=iY (l.map λs=>iY s.rows)
def EC(v:Ven):Bool:=pE v.sh 1 16||pE v.ttl 1 1000000000||pE v.ses 1 1000000000
def sI(v:Ven):Int×Int:=
 if EC v=true then(-1,7)else if v.secs.length=0 then(-1,6)else if 8<v.secs.length then(-1,3)else
 match o6 v.secs v.secs.length with
 |some (i,e)=>((i:Int),e)
 |none=>if 4096<bW v.secs then(-1,3)else(0,0)
abbrev tL(v:Ven)(sv:Value):Value:=.agg #[.int .i64 v.sh,.int .i64 v.ttl,.int .i64 v.ses,sv]
def SecsC(W:AW)(sv:Value)(l:List Sec):Prop:=Secs W sv l/\(∃a c,sv=.slice a l.length c/\((l.length<=c/\c<bQ)\/c=bQ+3)/\(l≠[]->∃b o,a=some ⟨b,o,none⟩))
theorem SecsC.mono{W W':AW}{v:Value}{l:List Sec}(h:SecsC W v l)(hle:Le W W'):SecsC W' v l:=⟨h.1.mono hle,h.2⟩
theorem Row.take{α:Type}{W:AW}{z:Nat}{f:List Value->Nat->α->Prop}{b o c:Nat}{l:List α}(h:Row W z f (.slice (some ⟨b,o,none⟩) l.length c) l){k:Nat}(hk:k<=l.length)(h0:l≠[]):Row W z f (.slice (some ⟨b,o,none⟩) k c) (l.take k):=by
 obtain⟨a,c',he,h⟩:=h;injection he with e1 e2 e3;subst e1 e3;refine⟨_,c,by rw[List.length_take,Nat.min_eq_left hk],?_⟩;rcases h with h|⟨b',o',cs,h1,h2,h3,h4⟩
 ·exact absurd h h0
 ·refine .inr ⟨b',o',cs,h1,h2,h3,λi hi=>?_⟩;rw[List.getElem_take];exact h4 i (by rw[List.length_take]at hi;omega)
theorem a6m:nO Tryz.prog 22=some 3:=by kernel_rfl
theorem SecsC.pre{W:AW}{sv:Value}{l:List Sec}(h:SecsC W sv l){k:Nat}(hk:k<l.length):∃u,(∀W',bL Tryz.prog 22 sv none (some (.int .i64 (k:Int))) none W'=some (u,W'))/\Secs W u (l.take k):=by
 obtain⟨h1,a,c,rfl,h2,h4⟩:=h;have h0:l≠[]:=by intro e;rw[e]at hk;simp at hk
 obtain⟨b,o,rfl⟩:=h4 h0;rcases h2 with⟨h2,h3⟩|rfl
 ·exact⟨_,λW'=>qM a6m (by omega) h3,Row.take h1 (by omega) h0⟩
 ·exact⟨_,λW'=>xE a6m (by omega) (Nat.le_of_lt hk),Row.take h1 (by omega) h0⟩
theorem a4l(W:AW):dP Tryz.prog 130 W=some (.pointer (some ⟨W.next,0,none⟩),W.add (.cells [.string (aJ []),.slice none 0 0,.int .i64 0])):=Eq.trans (by kernel_rfl) rfl
def mD{α:Type}(p:α->Bool)(l:List α):Int:=match l.findIdx? p with
 |some i=>(i:Int)
 |none=> -1
theorem JU{α:Type}{p:α->Bool}{l:List α}{k:Nat}(hk:k<l.length)(h1:p l[k]=true)(h2:(l.take k).any p=false):mD p l=(k:Int):=by
 have:l.findIdx? p=some k:=by rw[List.findIdx?_eq_some_iff_getElem];refine⟨hk,h1,λj hj=>?_⟩;rw[List.any_eq_false]at h2;exact h2 _ (by rw[List.mem_take_iff_getElem];exact⟨j,by omega,rfl⟩)
 unfold mD;rw[this]
theorem K3{α:Type}{p:α->Bool}{l:List α}(h:l.any p=false):mD p l= -1:=by
 have:l.findIdx? p=none:=by rw[List.findIdx?_eq_none_iff];intro x hx;rw[List.any_eq_false]at h;simpa using h x hx
 unfold mD;rw[this]
theorem NU{α:Type}{p:α->Bool}{l:List α}{k:Nat}(hk:k<l.length)(h1:p l[k]=false)(h2:(l.take k).any p=false):(l.take (k+1)).any p=false:=by rw[<-List.take_append_getElem hk,List.any_append,h2];simpa using h1
theorem ZJ{α:Type}{p:α->Bool}{l:List α}{k:Nat}(hk:k<l.length)(h1:p l[k]=true):l.any p=true:=by rw[List.any_eq_true];exact⟨_,List.getElem_mem hk,h1⟩
theorem QK{α:Type}{p:α->Bool}{l:List α}:decide (0<=mD p l)=l.any p:=by
 unfold mD;cases h:l.findIdx? p with
 |none=>
  rw[List.findIdx?_eq_none_iff]at h;have:l.any p=false:=by rw[List.any_eq_false];intro x hx;simpa using h x hx
  rw[this];rfl
 |some i=>rw[List.findIdx?_eq_some_iff_getElem]at h;obtain⟨h1,h2,h3⟩:=h;rw[ZJ h1 h2];simp
theorem YB{f v:Value}{p:Sec->Bool}{l:List Sec}{W:AW}(h:Secs W v l)(hl:l.length<1000)(hp:∀s rv,aL f [QB s rv] W=some (.bool (p s),W)):aL (.func (.func 272) #[] #[]) [v,f] W=some (.int .i64 (mD p l),W):=by
 refine aT rfl ?_ fP;unfold d9;simp only[SX,h.len CB];refine bR l.length (by omega) (λk R W'=>W'=W/\R 0=v/\R 1=f/\R 7=.int .i64 (l.length:Int)/\R 8=.int .i64 (k:Int)/\(l.take k).any p=false)
  (λr=>r.2.2=W/\((r.1=.exit 0/\mD p l= -1)\/(r.1=.ret/\r.2.1 4=.int .i64 (mD p l)))) ⟨rfl,rfl,rfl,rfl,rfl,rfl⟩ ?_ ?_ ?_
 ·rintro k R W' hk ⟨rfl,h0,h1,h7,h8,ha⟩;unfold bH;obtain⟨b,o,rv,g1,g2,g3,_⟩:=h.get hk;have e1:((k:Int)<(l.length:Int)):=by omega
  have e2:(k:Int)+1=((k+1:Nat):Int):=by omega
  have ea:=bA (P:=Tryz.prog) (W:=W') (t:=3) (c:=false) (d:=true) (a:=(k:Int)) (b:=1) (by omega) (by omega);simp only[SX,h0,h1,h7,h8,e1,g1,g3 _ (.refl _),hp];cases hx:p l[k]
  ·simp only[SX,ea,aA];exact .inl ⟨trivial,trivial,h0,h1,h7,by rw[<-e2];rfl,NU hk hx ha⟩
  ·simp only[SX,aA];exact .inr ⟨by simp,trivial,.inr ⟨trivial,by rw[JU hk hx ha];rfl⟩⟩
 ·rintro R W' ⟨rfl,h0,h1,h7,h8,ha⟩;unfold bH;have e1:¬((l.length:Int)<(l.length:Int)):=by omega
  rw[List.take_length]at ha;simp only[SX,h7,h8,e1,aA];exact⟨by simp,trivial,.inl ⟨trivial,K3 ha⟩⟩
 ·rintro⟨x,R,W'⟩ ⟨hW,hq⟩;simp only at hW hq;subst hW;rcases hq with⟨rfl,hq⟩|⟨rfl,h4⟩
  ·simp only[SX,aA,hq];exact⟨trivial,.refl _⟩
  ·simp only[SX,aA,h4];exact⟨trivial,.refl _⟩
theorem YE{f v:Value}{p:Int->Bool}{l:List Int}{W:AW}(h:Ints W v l)(hl:l.length<1000)(hp:∀n,aL f [.int .i64 n] W=some (.bool (p n),W)):aL (.func (.func 222) #[] #[]) [v,f] W=some (.int .i64 (mD p l),W):=by
 refine aT rfl ?_ pK;unfold l7;simp only[SX,h.len LP];refine bR l.length (by omega) (λk R W'=>W'=W/\R 0=v/\R 1=f/\R 7=.int .i64 (l.length:Int)/\R 8=.int .i64 (k:Int)/\(l.take k).any p=false)
  (λr=>r.2.2=W/\((r.1=.exit 0/\mD p l= -1)\/(r.1=.ret/\r.2.1 4=.int .i64 (mD p l)))) ⟨rfl,rfl,rfl,rfl,rfl,rfl⟩ ?_ ?_ ?_
 ·rintro k R W' hk ⟨rfl,h0,h1,h7,h8,ha⟩;unfold fA;obtain⟨q,g1,g2⟩:=h.get hk;have e1:((k:Int)<(l.length:Int)):=by omega
  have e2:(k:Int)+1=((k+1:Nat):Int):=by omega
  have ea:=bA (P:=Tryz.prog) (W:=W') (t:=3) (c:=false) (d:=true) (a:=(k:Int)) (b:=1) (by omega) (by omega);simp only[SX,h0,h1,h7,h8,e1,g1,g2 _ (.refl _),hp];cases hx:p l[k]
  ·simp only[SX,ea,aA];exact .inl ⟨trivial,trivial,h0,h1,h7,by rw[<-e2];rfl,NU hk hx ha⟩
  ·simp only[SX,aA];exact .inr ⟨by simp,trivial,.inr ⟨trivial,by rw[JU hk hx ha];rfl⟩⟩
 ·rintro R W' ⟨rfl,h0,h1,h7,h8,ha⟩;unfold fA;have e1:¬((l.length:Int)<(l.length:Int)):=by omega
  rw[List.take_length]at ha;simp only[SX,h7,h8,e1,aA];exact⟨by simp,trivial,.inl ⟨trivial,K3 ha⟩⟩
 ·rintro⟨x,R,W'⟩ ⟨hW,hq⟩;simp only at hW hq;subst hW;rcases hq with⟨rfl,hq⟩|⟨rfl,h4⟩
  ·simp only[SX,aA,hq];exact⟨trivial,.refl _⟩
  ·simp only[SX,aA,h4];exact⟨trivial,.refl _⟩
theorem YV{f v:Value}{p:Sec->Bool}{l:List Sec}{W:AW}(h:Secs W v l)(hl:l.length<1000)(hp:∀s rv,aL f [QB s rv] W=some (.bool (p s),W)):aL (.func (.func 234) #[] #[]) [v,f] W=some (.bool (l.any p),W):=by refine aT rfl ?_ fC;unfold bZ;simp only[SX,YB h hl hp,QK,aA];exact⟨trivial,.refl _⟩
theorem YM{f v:Value}{p:Int->Bool}{l:List Int}{W:AW}(h:Ints W v l)(hl:l.length<1000)(hp:∀n,aL f [.int .i64 n] W=some (.bool (p n),W)):aL (.func (.func 169) #[] #[]) [v,f] W=some (.bool (l.any p),W):=by refine aT rfl ?_ nN;unfold iZ;simp only[SX,YE h hl hp,QK,aA];exact⟨trivial,.refl _⟩
theorem XJ(n:Int)(W:AW):aL (.func (.func 236) #[] #[]) [.int .i64 n] W=some (.bool (pE n 1 64),W):=by refine aT rfl ?_ AA;unfold wO;simp only[SX,mM,aA];exact⟨trivial,.refl _⟩
theorem a3y(a b c:Value)(W:AW):eH (.agg #[a,b,c]) W=some (.pointer (some ⟨W.next,0,none⟩),W.add (.cells [a,b,c])):=fH _
theorem RD{c:Nat}{m:List UInt8}{W:AW}(hc:∀W',Le W W'->aR (.pointer (some ⟨c,0,none⟩)) W'=some (.string (aJ m),W'))(s:Sec)(rv:Value):
 aL (.func (.func 235) #[] #[.pointer (some ⟨c,0,none⟩)]) [QB s rv] W=some (.bool (s.name==m),W):=by
 refine aT rfl ?_ BA;unfold wP;have h0:=hc _ ((Le.refl W).add (.cells [.string (aJ s.name),rv,.int .i64 s.q]));have h1:aR (.pointer (some ⟨W.next,0,none⟩)) (W.add (.cells [.string (aJ s.name),rv,.int .i64 s.q]))=some (.string (aJ s.name),W.add (.cells [.string (aJ s.name),rv,.int .i64 s.q])):=bU dL rfl;simp only[SX,a3y,h0,h1,Nat.zero_add,sF,aA];exact⟨trivial,(Le.refl _).add _⟩
theorem WN{s:Sec}{rv bv:Value}{before:List Sec}{W:AW}(hs:Ints W rv s.rows)(hb:Secs W bv before)(hl:before.length<1000):aL (.func (.func 189) #[] #[]) [QB s rv,bv] W=some (.int .i64 (xU s before),W):=by
 refine aT rfl ?_ H6;unfold CS;have hle:Le W (W.add (.cells [.string (aJ s.name),rv,.int .i64 s.q])):=(Le.refl W).add _;simp only[SX,a3y,Nat.zero_add];generalize hW1:W.add (.cells [.string (aJ s.name),rv,.int .i64 s.q])=W1 at *;have hcs:cellsAt W1 W.next=some [.string (aJ s.name),rv,.int .i64 s.q]:=by rw[<-hW1];exact dL
 have hn:W.next<W1.next:=by rw[<-hW1,AW.add_next];omega
 have h0:∀W',Le W1 W'->aR (.pointer (some ⟨W.next,0,none⟩)) W'=some (.string (aJ s.name),W'):=λW' k=>bU (by rw[k.cellsAt hn];exact hcs) rfl
 have h1:aR (.pointer (some ⟨W.next,1,none⟩)) W1=some (rv,W1):=bU hcs rfl;have h2:aR (.pointer (some ⟨W.next,2,none⟩)) W1=some (.int .i64 s.q,W1):=bU hcs rfl;have hf:=YV (W:=W1) (hb.mono hle) hl (p:=λx=>x.name==s.name) (λx rv=>RD h0 x rv);unfold xU;cases n1:CX s.name
 ·simp only[SX,h0 _ (.refl _),rG,n1,if_true,aA];exact⟨trivial,hle⟩
 ·cases n2:before.any λx=>x.name==s.name
  ·by_cases n3:s.rows.length=0
   ·have e:((s.rows.length:Int)=0):=by omega
    simp only[SX,h0 _ (.refl _),rG,n1,hf,n2,h1,(hs.mono hle).len LP,e,if_pos n3,if_true,if_false,Bool.true_eq_false,Bool.false_eq_true,aA];exact⟨trivial,hle⟩
   ·have e:¬((s.rows.length:Int)=0):=by omega
    by_cases n4:16<s.rows.length
    ·have e2:((16:Int)<(s.rows.length:Int)):=by omega
     simp only[SX,h0 _ (.refl _),rG,n1,hf,n2,h1,(hs.mono hle).len LP,e,n3,e2,n4,if_true,if_false,Bool.true_eq_false,Bool.false_eq_true,aA];exact⟨trivial,hle⟩
    ·have e2:¬((16:Int)<(s.rows.length:Int)):=by omega
     have hg:=YM (W:=W1) (hs.mono hle) (by omega) (p:=λn=>pE n 1 64) (λn=>XJ n W1);cases n5:s.rows.any λn=>pE n 1 64
     ·cases n6:pE s.q 0 64
      ·simp only[SX,h0 _ (.refl _),rG,n1,hf,n2,h1,(hs.mono hle).len LP,e,n3,e2,n4,hg,n5,h2,mM,n6,if_true,if_false,Bool.true_eq_false,Bool.false_eq_true,aA];exact⟨trivial,hle⟩
      ·simp only[SX,h0 _ (.refl _),rG,n1,hf,n2,h1,(hs.mono hle).len LP,e,n3,e2,n4,hg,n5,h2,mM,n6,if_true,if_false,Bool.true_eq_false,Bool.false_eq_true,aA];exact⟨trivial,hle⟩
     ·simp only[SX,h0 _ (.refl _),rG,n1,hf,n2,h1,(hs.mono hle).len LP,e,n3,e2,n4,hg,n5,if_true,if_false,Bool.true_eq_false,Bool.false_eq_true,aA];exact⟨trivial,hle⟩
  ·simp only[SX,h0 _ (.refl _),rG,n1,hf,n2,if_true,if_false,Bool.true_eq_false,Bool.false_eq_true,aA];exact⟨trivial,hle⟩
theorem P9(a b c d:Value)(W:AW):eH (.agg #[a,b,c,d]) W=some (.pointer (some ⟨W.next,0,none⟩),W.add (.cells [a,b,c,d])):=fH _
theorem qD(W:AW)(cs ds:List Value):(W.add (.cells cs)).put W.next (.cells ds)=W.add (.cells ds):=LK W _ _
theorem a5J{b:Nat}{a c d x y z:Value}{W:AW}(h:rwCells W b=some [x,y,z])(h1:Eng.one a=true)(h2:Eng.one c=true)(h3:Eng.one d=true):mY 3 (.pointer (some ⟨b,0,none⟩)) (.agg #[a,c,d]) W=some (undef,W.put b (.cells [a,c,d])):=by
 rw[zO,h];have e:(#[a,c,d]:Array Value).toList.all Eng.one=true:=by simp[h1,h2,h3]
 simp only[Option.bind_some,e,and_true];rfl
theorem Row.one{α:Type}{W:AW}{z:Nat}{f:List Value->Nat->α->Prop}{v:Value}{l:List α}(h:Row W z f v l):Eng.one v=true:=by obtain⟨a,c,rfl,_⟩:=h;rfl
theorem AB{s:Sec}{b:List Sec}(h:xU s b=0):CX s.name=true/\(b.any λx=>x.name==s.name)=false/\s.rows.length≠0/\s.rows.length<=16/\(∀n∈s.rows,1<=n/\n<=64)/\0<=s.q/\s.q<=64:=by
 unfold xU at h;split at h
 ·exact absurd h (by decide)
 rename_i h1;split at h
 ·exact absurd h (by decide)
 rename_i h2;split at h
 ·exact absurd h (by decide)
 rename_i h3;split at h
 ·exact absurd h (by decide)
 rename_i h4;split at h
 ·exact absurd h (by decide)
 rename_i h5;split at h
 ·exact absurd h (by decide)
 rename_i h6;refine⟨by simpa using h1,by simpa using h2,h3,by omega,?_,?_⟩
 ·intro n hn;have:pE n 1 64=false:=by
   cases ho:pE n 1 64
   ·rfl
   ·exact absurd (List.any_eq_true.2 ⟨n,hn,ho⟩) h5
  unfold pE at this;simp only[Bool.or_eq_false_iff,decide_eq_false_iff_not]at this;omega
 ·unfold pE at h6;simp only[Bool.or_eq_true,decide_eq_true_iff]at h6;omega
theorem oC{l:List Int}{k:Nat}(hk:k<l.length):iY (l.take (k+1))=iY (l.take k)+l[k]:=by rw[<-List.take_append_getElem hk,a0r]
theorem oU{l:List Sec}{k:Nat}(hk:k<l.length):bW (l.take (k+1))=bW (l.take k)+iY l[k].rows:=by unfold bW;rw[List.map_take,List.map_take,oC (by rw[List.length_map];exact hk),List.getElem_map]
theorem sH{l:List Int}(h:∀n∈l,1<=n/\n<=64)(k:Nat):(0<=iY (l.take k)/\iY (l.take k)<=64*k)/\(min k l.length:Int)<=iY (l.take k):=by
 induction k with
 |zero=>simp[iY];omega
 |succ k ih=>
  by_cases hk:k<l.length
  ·rw[oC hk];have:=h _ (List.getElem_mem hk);omega
  ·rw[List.take_of_length_le (by omega)]at ih|-;omega
theorem JE{l:List Sec}{k:Nat}(h:o6 l k=none)(hk:k<l.length):o6 l (k+1)=if xU l[k] (l.take k)=0 then none else some (k,xU l[k] (l.take k)):=by show(match o6 l k with|some r=>some r|none=>match l[k]? with|some s=>if xU s (l.take k)=0 then none else some (k,xU s (l.take k))|none=>none)=_;rw[h,List.getElem?_eq_getElem hk]
theorem JF{l:List Sec}{k:Nat}(h:o6 l k=none):∀i (hi:i<k) (hl:i<l.length),xU l[i] (l.take i)=0:=by
 induction k with
 |zero=>intro i hi;omega
 |succ k ih=>
  have h1:o6 l k=none:=by
   cases hb:o6 l k with
   |none=>rfl
   |some r=>rw[AQ hb (Nat.le_succ k)]at h;cases h
  intro i hi hl;by_cases e:i=k
  ·subst e;rw[JE h1 hl]at h;split at h
   ·assumption
   ·cases h
  ·exact ih h1 i (by omega) hl
theorem O0{l:List Sec}{k:Nat}(h:o6 l k=none)(hk:k<=l.length):0<=bW (l.take k)/\bW (l.take k)<=1024*k:=by
 induction k with
 |zero=>simp[bW,iY]
 |succ k ih=>
  have h1:o6 l k=none:=by
   cases hb:o6 l k with
   |none=>rfl
   |some r=>rw[AQ hb (Nat.le_succ k)]at h;cases h
  have h2:=ih h1 (by omega);have hk':k<l.length:=by omega
  obtain⟨_,_,_,h3,h4,_⟩:=AB (JF h k (by omega) hk');rw[oU hk'];have h5:=(sH h4 l[k].rows.length).1;rw[List.take_length]at h5;omega
theorem OU{v:Ven}{sv:Value}{W:AW}(hs:SecsC W sv v.secs)(hv:v.secs.length<1000):aL (.func (.func 129) #[] #[]) [tL v sv] W=some (.tuple #[.int .i64 (sI v).1,.int .i64 (sI v).2],W):=by
 refine aT rfl ?_ GA;unfold DD;have hle:Le W (W.add (.cells [.int .i64 v.sh,.int .i64 v.ttl,.int .i64 v.ses,sv])):=(Le.refl W).add _;have hc:cellsAt (W.add (.cells [.int .i64 v.sh,.int .i64 v.ttl,.int .i64 v.ses,sv])) W.next=some [.int .i64 v.sh,.int .i64 v.ttl,.int .i64 v.ses,sv]:=dL;have hn:W.next<(W.add (.cells [.int .i64 v.sh,.int .i64 v.ttl,.int .i64 v.ses,sv])).next:=by rw[AW.add_next];omega
 simp only[SX,P9,Nat.zero_add];generalize hW1:W.add (.cells [.int .i64 v.sh,.int .i64 v.ttl,.int .i64 v.ses,sv])=W1 at *;have c0:aR (.pointer (some ⟨W.next,0,none⟩)) W1=some (.int .i64 v.sh,W1):=bU hc rfl;have c1:aR (.pointer (some ⟨W.next,1,none⟩)) W1=some (.int .i64 v.ttl,W1):=bU hc rfl;have c2:aR (.pointer (some ⟨W.next,2,none⟩)) W1=some (.int .i64 v.ses,W1):=bU hc rfl;have c3:∀W',Le W1 W'->aR (.pointer (some ⟨W.next,3,none⟩)) W'=some (sv,W'):=λW' k=>bU (by rw[k.cellsAt hn];exact hc) rfl
 simp only[SX,c0,mM];unfold sI EC;cases n1:pE v.sh 1 16;case true=>simp only[SX,Bool.true_or,if_true,aA];exact⟨trivial,hle⟩
 simp only[SX,Nat.zero_add,c1,sQ];cases n2:pE v.ttl 1 1000000000;case true=>simp only[SX,Bool.true_or,Bool.or_true,if_true,aA];exact⟨trivial,hle⟩
 simp only[SX,Nat.zero_add,c2,sQ];cases n3:pE v.ses 1 1000000000;case true=>simp only[SX,Bool.true_or,Bool.or_true,if_true,aA];exact⟨trivial,hle⟩
 simp only[SX,Nat.zero_add,c3 _ (.refl _),hs.1.len CB,Bool.or_self,Bool.false_eq_true,if_false];by_cases n4:v.secs.length=0;case pos=>
  have e:((v.secs.length:Int)=0):=by omega
  simp only[SX,e,if_pos n4,aA];exact⟨trivial,hle⟩
 have e4:¬((v.secs.length:Int)=0):=by omega
 simp only[SX,e4,if_neg n4,Nat.zero_add,c3 _ (.refl _),hs.1.len CB];by_cases n5:8<v.secs.length;case pos=>
  have e:((8:Int)<(v.secs.length:Int)):=by omega
  simp only[SX,e,if_pos n5,aA];exact⟨trivial,hle⟩
 have e5:¬((8:Int)<(v.secs.length:Int)):=by omega
 simp only[SX,e5,if_neg n5,Nat.zero_add,c3 _ (.refl _),hs.1.len CB];refine bR v.secs.length (by omega) (λk R W'=>Le W1 W'/\R 1=.pointer (some ⟨W.next,0,none⟩)/\R 4=.int .i64 (bW (v.secs.take k))/\R 35=sv/\R 36=.int .i64 (v.secs.length:Int)/\R 37=.int .i64 (k:Int)/\o6 v.secs k=none)
  (λr=>Le W1 r.2.2/\((r.1=.exit 1/\r.2.1 4=.int .i64 (bW v.secs)/\o6 v.secs v.secs.length=none)\/(r.1=.ret/\∃i e,r.2.1 2=.int .i64 ((i:Nat):Int)/\r.2.1 3=.int .i64 e/\o6 v.secs v.secs.length=some (i,e)))) ⟨.refl _,rfl,rfl,rfl,rfl,rfl,rfl⟩ ?_ ?_ ?_
 ·rintro k R W' hk ⟨hl,h1,h4,h35,h36,h37,hb⟩;unfold oO;obtain⟨b,o,rv,g1,g2,g3,_⟩:=hs.1.get hk;obtain⟨u,u1,u2⟩:=hs.pre hk;have e1:((k:Int)<(v.secs.length:Int)):=by omega
  simp only[SX,h35,h36,h37,e1,g1,g3 _ (hle.trans hl),a4l,a5J fG (xM _) (Row.one g2) (rJ _ _),qD];have hl2:Le W1 (W'.add (.cells [.string (aJ v.secs[k].name),rv,.int .i64 v.secs[k].q])):=hl.add _;have hc2:cellsAt (W'.add (.cells [.string (aJ v.secs[k].name),rv,.int .i64 v.secs[k].q])) W'.next=some [.string (aJ v.secs[k].name),rv,.int .i64 v.secs[k].q]:=dL;generalize hW2:W'.add (.cells [.string (aJ v.secs[k].name),rv,.int .i64 v.secs[k].q])=W2 at *;have d3:jV 3 (.pointer (some ⟨W'.next,0,none⟩)) W2=some (QB v.secs[k] rv,W2):=vT hc2 rfl;have d1:aR (.pointer (some ⟨W'.next,1,none⟩)) W2=some (rv,W2):=bU hc2 rfl;have hlr:=(g2.mono (hle.trans hl2)).len (P:=Tryz.prog) LP;simp only[SX,d3,h1,Nat.zero_add,c3 _ hl2,u1,WN (g2.mono (hle.trans hl2)) (u2.mono (hle.trans hl2)) (by rw[List.length_take];omega)];have hbs:=JE hb hk;by_cases hz:xU v.secs[k] (v.secs.take k)=0
  ·rw[if_pos hz]at hbs;obtain⟨_,_,_,hr1,hr2,_⟩:=AB hz;have htb:=O0 hb (by omega);simp only[SX,hz,d1,hlr];refine bR v.secs[k].rows.length (by omega) (λj R' W3=>W3=W2/\R' 1=.pointer (some ⟨W.next,0,none⟩)/\R' 4=.int .i64 (bW (v.secs.take k)+iY (v.secs[k].rows.take j))/\R' 35=sv/\R' 36=.int .i64 (v.secs.length:Int)/\R' 37=.int .i64 (k:Int)/\R' 53=rv/\R' 54=.int .i64 (v.secs[k].rows.length:Int)/\R' 55=.int .i64 (j:Int))
    (λr=>r.2.2=W2/\r.1=.exit 3/\r.2.1 1=.pointer (some ⟨W.next,0,none⟩)/\r.2.1 4=.int .i64 (bW (v.secs.take (k+1)))/\r.2.1 35=sv/\r.2.1 36=.int .i64 (v.secs.length:Int)/\r.2.1 37=.int .i64 (k:Int)) ⟨rfl,h1,by rw[List.take_zero,show iY []=0 from rfl,Int.add_zero];exact h4,h35,h36,h37,rfl,rfl,rfl⟩ ?_ ?_ ?_
   ·rintro j R' W3 hj ⟨rfl,h1,h4,h35,h36,h37,h53,h54,h55⟩;unfold l6;obtain⟨p,p1,p2⟩:=g2.get hj;have e1:((j:Int)<(v.secs[k].rows.length:Int)):=by omega
    have e2:(j:Int)+1=((j+1:Nat):Int):=by omega
    have ea:=bA (P:=Tryz.prog) (W:=W3) (t:=3) (c:=false) (d:=true) (a:=(j:Int)) (b:=1) (by omega) (by omega);have hsb:=(sH hr2 j).1;have hsn:=hr2 _ (List.getElem_mem hj);have eb:=bA (P:=Tryz.prog) (W:=W3) (t:=3) (c:=false) (d:=false) (a:=bW (v.secs.take k)+iY (v.secs[k].rows.take j)) (b:=v.secs[k].rows[j]) (by omega) (by omega);simp only[SX,h4,h53,h54,h55,e1,p1,p2 _ (hle.trans hl2),ea,eb,aA];refine .inl ⟨trivial,trivial,h1,?_,h35,h36,h37,h53,h54,by rw[<-e2];rfl⟩;rw[oC hj,<-Int.add_assoc];rfl
   ·rintro R' W3 ⟨rfl,h1,h4,h35,h36,h37,h53,h54,h55⟩;unfold l6;have e1:¬((v.secs[k].rows.length:Int)<(v.secs[k].rows.length:Int)):=by omega
    simp only[SX,h54,h55,e1,aA];refine⟨by simp,trivial,trivial,h1,?_,h35,h36,h37⟩;rw[oU hk];rw[List.take_length]at h4;exact h4
   ·rintro⟨x,R',W3⟩ ⟨hW,rfl,h1,h4,h35,h36,h37⟩;simp only at hW h1 h4 h35 h36 h37;subst hW;have e2:(k:Int)+1=((k+1:Nat):Int):=by omega
    have ea:=bA (P:=Tryz.prog) (W:=W3) (t:=3) (c:=false) (d:=true) (a:=(k:Int)) (b:=1) (by omega) (by omega);simp only[SX,h37,ea,aA];exact .inl ⟨trivial,hl2,h1,h4,h35,h36,by rw[<-e2];rfl,hbs⟩
  ·rw[if_neg hz]at hbs;simp only[SX,hz,aA];exact .inr ⟨by simp,hl2,.inr ⟨trivial,k,_,rfl,rfl,AQ hbs (by omega)⟩⟩
 ·rintro R W' ⟨hl,h1,h4,h35,h36,h37,hb⟩;unfold oO;have e1:¬((v.secs.length:Int)<(v.secs.length:Int)):=by omega
  rw[List.take_length]at h4;simp only[SX,h36,h37,e1,aA];exact⟨by simp,hl,.inl ⟨trivial,h4,hb⟩⟩
 ·rintro⟨x,R,W'⟩ ⟨hl,hq⟩;simp only at hl hq;rcases hq with⟨rfl,h4,hb⟩|⟨rfl,i,e,h2,h3,hb⟩
  ·rw[hb];by_cases n6:4096<bW v.secs
   ·simp only[SX,h4,n6,if_true,aA];exact⟨trivial,hle.trans hl⟩
   ·simp only[SX,h4,n6,if_false,aA];exact⟨trivial,hle.trans hl⟩
  ·rw[hb];simp only[SX,h2,h3,aA];exact⟨trivial,hle.trans hl⟩
abbrev YF:=Nat×Nat×Nat
def Z5(i k m:Nat):List YF:=(List.range m).map λj=>(i,k,j)
def SK(i:Nat)(rows:List Int)(k:Nat):List YF:=(List.range k).flatMap λj=>Z5 i j (rows.getD j 0).toNat
def SF(l:List Sec)(n:Nat):List YF:=(List.range n).flatMap λi=>match l[i]? with
 |some s=>SK i s.rows s.rows.length
 |none=>[]
def xP(l:List Sec):List YF:=SF l l.length
theorem Y7(i:Nat)(rows:List Int){k:Nat}(hk:k<rows.length):SK i rows (k+1)=SK i rows k++Z5 i k rows[k].toNat:=by unfold SK;rw[List.range_succ,List.flatMap_append,List.flatMap_cons,List.flatMap_nil,List.append_nil,List.getD_eq_getElem?_getD,List.getElem?_eq_getElem hk,Option.getD_some]
theorem X7(l:List Sec){n:Nat}(hn:n<l.length):SF l (n+1)=SF l n++SK n l[n].rows l[n].rows.length:=by unfold SF;rw[List.range_succ,List.flatMap_append,List.flatMap_cons,List.flatMap_nil,List.append_nil,List.getElem?_eq_getElem hn]
structure Good (l:List Sec):Prop where
 len:l.length<=8
 rows:∀s∈l,s.rows.length≠0/\s.rows.length<=16/\∀n∈s.rows,1<=n/\n<=64
theorem Good.of{l:List Sec}(h:l.length<=8)(hb:o6 l l.length=none):Good l:=
 ⟨h,λs hs=>by obtain⟨i,hi,rfl⟩:=List.getElem_of_mem hs;obtain⟨_,_,h3,h4,h5,_⟩:=AB (JF hb i hi hi);exact⟨h3,h4,h5⟩⟩
theorem ZA(i k m:Nat):(Z5 i k m).length=m:=by simp[Z5]
theorem P5{i:Nat}{rows:List Int}(h:∀n∈rows,1<=n/\n<=64):∀{k:Nat},k<=rows.length->((SK i rows k).length:Int)=iY (rows.take k)
 |0,_=>by simp[SK,iY]
 |k+1,hk=>by
  have hk':k<rows.length:=by omega
  rw[Y7 i rows hk',List.length_append,ZA,oC hk',<-P5 (i:=i) h (by omega:k<=rows.length)];have:=h _ (List.getElem_mem hk');omega
theorem F5{l:List Sec}(h:Good l):∀{n:Nat},n<=l.length->((SF l n).length:Int)=bW (l.take n)/\(SF l n).length<=1024*n
 |0,_=>by simp[SF,bW,iY]
 |n+1,hn=>by
  have hn':n<l.length:=by omega
  obtain⟨h1,h2,h3⟩:=h.rows _ (List.getElem_mem hn');have ih:=F5 h (by omega:n<=l.length);have hl:=P5 (i:=n) h3 (Nat.le_refl _);have hb:=(sH h3 l[n].rows.length).1;rw[List.take_length]at hl hb;rw[X7 l hn',List.length_append,oU hn'];omega
def a9T(p:YF):List Value:=[.int .i64 (p.1:Int),.int .i64 (p.2.1:Int),.int .i64 (p.2.2:Int)]
def a6X(cs:List Value)(p:Nat)(a:YF):Prop:=cs[p]? =some (.int .i64 (a.1:Int))/\cs[p+1]? =some (.int .i64 (a.2.1:Int))/\cs[p+2]? =some (.int .i64 (a.2.2:Int))
abbrev Plcs(W:AW)(v:Value)(l:List YF):Prop:=Row W 3 a6X v l
theorem vK{v:Ven}(h:(sI v).2=0):Good v.secs/\EC v=false/\0<v.secs.length/\o6 v.secs v.secs.length=none/\bW v.secs<=4096/\(sI v).1=0:=by
 unfold sI at h|-;split at h
 ·exact absurd h (by decide)
 rename_i h1;split at h
 ·exact absurd h (by decide)
 rename_i h2;split at h
 ·exact absurd h (by decide)
 rename_i h3;cases hb:o6 v.secs v.secs.length with
 |some r=>
  obtain⟨i,e⟩:=r;rw[hb]at h;simp only at h;subst h;exfalso;have:∀n,o6 v.secs n≠some (i,0):=by
   intro n;induction n with
   |zero=>simp[o6]
   |succ n ih=>
    intro hn;have hn':(match o6 v.secs n with|some r=>some r|none=>match v.secs[n]? with|some s=>if xU s (v.secs.take n)=0 then none else some (n,xU s (v.secs.take n))|none=>none)=some (i,0):=hn;cases hbn:o6 v.secs n with
    |some r=>rw[hbn]at hn';simp only at hn';rw[hn']at hbn;exact ih hbn
    |none=>
     rw[hbn]at hn';simp only at hn';split at hn'
     ·split at hn'
      ·cases hn'
      ·rename_i hz;injection hn' with hn';injection hn' with _ e;exact hz e
     ·cases hn'
  exact this _ hb
 |none=>
  rw[hb]at h;simp only at h|-;split at h
  ·exact absurd h (by decide)
  rename_i h4;rw[if_neg h4,if_neg h1,if_neg h2,if_neg h3];exact⟨Good.of (by omega) hb,by simpa using h1,by omega,trivial,by omega,rfl⟩
theorem a0V(v:Ven)(sv:Value)(W:AW):∃W1,eH (tL v sv) W=some (.pointer (some ⟨W.next,0,none⟩),W1)/\Le W W1/\W.next<W1.next/\
 (∀W',Le W1 W'->jV 4 (.pointer (some ⟨W.next,0,none⟩)) W'=some (tL v sv,W'))/\(∀W',Le W1 W'->aR (.pointer (some ⟨W.next,0,none⟩)) W'=some (.int .i64 v.sh,W'))/\(∀W',Le W1 W'->aR (.pointer (some ⟨W.next,3,none⟩)) W'=some (sv,W')):=by
 have hc:cellsAt (W.add (.cells [.int .i64 v.sh,.int .i64 v.ttl,.int .i64 v.ses,sv])) W.next=some [.int .i64 v.sh,.int .i64 v.ttl,.int .i64 v.ses,sv]:=dL;have hn:W.next<(W.add (.cells [.int .i64 v.sh,.int .i64 v.ttl,.int .i64 v.ses,sv])).next:=by rw[AW.add_next];omega
 exact⟨_,P9 _ _ _ _ W,(Le.refl W).add _,hn,λW' k=>vT (by rw[k.cellsAt hn];exact hc) rfl,λW' k=>bU (by rw[k.cellsAt hn];exact hc) rfl,λW' k=>bU (by rw[k.cellsAt hn];exact hc) rfl⟩
def jB(v:Ven):Int×Int:=if(sI v).2=0 then(bW v.secs,0)else(0,(sI v).2)
structure RowT where
 sec:Nat
 row:Nat
 first:Int
 many:Int
abbrev UF(r:RowT):Value:=.agg #[.int .i64 (r.sec:Int),.int .i64 (r.row:Int),.int .i64 r.first,.int .i64 r.many]
def BB(l:List Sec)(i:Nat)(rows:List Int)(k:Nat):List RowT:=(List.range k).map λj=>⟨i,j,bW (l.take i)+iY (rows.take j),rows.getD j 0⟩
def qK(l:List Sec)(n:Nat):List RowT:=(List.range n).flatMap λi=>match l[i]? with
 |some s=>BB l i s.rows s.rows.length
 |none=>[]
def jG(l:List Sec):List RowT:=qK l l.length
theorem qX(l:List Sec)(i:Nat)(rows:List Int){k:Nat}(hk:k<rows.length):BB l i rows (k+1)=BB l i rows k++[⟨i,k,bW (l.take i)+iY (rows.take k),rows[k]⟩]:=by unfold BB;rw[List.range_succ,List.map_append,List.map_cons,List.map_nil,List.getD_eq_getElem?_getD,List.getElem?_eq_getElem hk,Option.getD_some]
theorem oQ(l:List Sec){n:Nat}(hn:n<l.length):qK l (n+1)=qK l n++BB l n l[n].rows l[n].rows.length:=by unfold qK;rw[List.range_succ,List.flatMap_append,List.flatMap_cons,List.flatMap_nil,List.append_nil,List.getElem?_eq_getElem hn]
theorem a0s{l:List Sec}{i:Nat}{rows:List Int}{k n:Nat}(h:k<=n)(hn:n<=rows.length):BB l i rows k<+:BB l i rows n:=by
 induction n with
 |zero=>obtain rfl:k=0:=by omega
        exact List.prefix_refl _
 |succ n ih=>
  by_cases e:k=n+1
  ·subst e;exact List.prefix_refl _
  ·rw[qX l i rows (by omega)];exact(ih (by omega) (by omega)).trans (List.prefix_append _ _)
theorem YL{l:List Sec}{k n:Nat}(h:k<=n)(hn:n<=l.length):qK l k<+:qK l n:=by
 induction n with
 |zero=>obtain rfl:k=0:=by omega
        exact List.prefix_refl _
 |succ n ih=>
  by_cases e:k=n+1
  ·subst e;exact List.prefix_refl _
  ·rw[oQ l (by omega)];exact(ih (by omega) (by omega)).trans (List.prefix_append _ _)
theorem a0J{l:List Sec}{i k:Nat}(hi:i<l.length)(hk:k<l[i].rows.length):(qK l i++BB l i l[i].rows k)++[⟨i,k,bW (l.take i)+iY (l[i].rows.take k),l[i].rows[k]⟩]<+:jG l:=by rw[List.append_assoc,<-qX l i _ hk];refine List.IsPrefix.trans ?_ (YL (k:=i+1) (by omega) (Nat.le_refl _));rw[oQ l hi];exact(List.prefix_append_right_inj _).2 (a0s (by omega) (Nat.le_refl _))
theorem a8M(a b c d:Int)(W:AW):iO Tryz.prog 210 [(0,.int .i64 a),(1,.int .i64 b),(2,.int .i64 c),(3,.int .i64 d)] W=some (.agg #[.int .i64 a,.int .i64 b,.int .i64 c,.int .i64 d],W):=Eq.trans (by kernel_rfl) rfl
theorem a3g{v:Ven}{sv f:Value}{bx:Nat}{W0 W:AW}(hs:Secs W0 sv v.secs)(hg:Good v.secs)(hb:aR (.pointer (some ⟨bx,3,none⟩)) W=some (sv,W))(I:List RowT->AW->Prop)(Q:AW->Prop)
 (hI:I [] W)(hS:∀pre W',I pre W'->Le W0 W')(hA:∀pre W' cs,I pre W'->I pre (W'.add (.cells cs)))
 (step:∀pre r W',pre++[r]<+:jG v.secs->I pre W'->∃b W2,aL f [UF r] W'=some (.bool b,W2)/\(b=true->I (pre++[r]) W2)/\(b=false->Q W2)):
 ∃W2,aL (.func (.func 190) #[] #[.pointer (some ⟨bx,0,none⟩)]) [f] W=some (.tuple #[],W2)/\(I (jG v.secs) W2\/Q W2):=by
 have main:Ok (rH aL f (.pointer (some ⟨bx,0,none⟩)) W) λr=>r.1=.tuple #[]/\(I (jG v.secs) r.2\/Q r.2):=by
  unfold rH;have hlen:=hg.len;have add1:∀(k:Nat) (W':AW),k<1000000->aD Tryz.prog .add 3 false true (.int .i64 (k:Int)) (.int .i64 1) W'=some (.int .i64 ((k+1:Nat):Int),W'):=λk W' hk=>bA (by omega) (by omega)
  simp only[SX,Nat.zero_add,hb,hs.len CB];refine bR v.secs.length (by omega) (λi R W'=>R 0=f/\R 3=.int .i64 (bW (v.secs.take i))/\R 9=sv/\R 10=.int .i64 (v.secs.length:Int)/\R 11=.int .i64 (i:Int)/\I (qK v.secs i) W')
   (λr=>(r.1=.exit 0/\I (jG v.secs) r.2.2)\/(r.1=.ret/\Q r.2.2)) ⟨rfl,rfl,rfl,rfl,rfl,hI⟩ ?_ ?_ ?_
  ·rintro i R W' hi ⟨h0,h3,h9,h10,h11,hi'⟩;unfold nQ;have e1:((i:Int)<(v.secs.length:Int)):=by omega
   obtain⟨b,o,rv,g1,g2,g3,_⟩:=hs.get hi;obtain⟨r1,r2,r3⟩:=hg.rows _ (List.getElem_mem hi);have htb:0<=bW (v.secs.take i)/\bW (v.secs.take i)<=1024*i:=by have:=F5 hg (by omega:i<=v.secs.length);omega
   have hI2:=hA _ _ [.string (aJ v.secs[i].name),rv,.int .i64 v.secs[i].q] hi';have hc2:cellsAt (W'.add (.cells [.string (aJ v.secs[i].name),rv,.int .i64 v.secs[i].q])) W'.next=some [.string (aJ v.secs[i].name),rv,.int .i64 v.secs[i].q]:=dL;simp only[SX,h9,h10,h11,e1,g1,g3 _ (hS _ _ hi'),a4l,a5J fG (xM _) (Row.one g2) (rJ _ _),qD,Nat.zero_add];generalize hW2:W'.add (.cells [.string (aJ v.secs[i].name),rv,.int .i64 v.secs[i].q])=W2 at *;have d1:aR (.pointer (some ⟨W'.next,1,none⟩)) W2=some (rv,W2):=bU hc2 rfl;simp only[SX,d1,g2.len LP];refine bR v.secs[i].rows.length (by omega) (λk R W'=>R 0=f/\R 3=.int .i64 (bW (v.secs.take i)+iY (v.secs[i].rows.take k))/\R 4=.int .i64 (i:Int)/\R 9=sv/\R 10=.int .i64 (v.secs.length:Int)/\R 11=.int .i64 (i:Int)/\R 17=rv/\R 18=.int .i64 (v.secs[i].rows.length:Int)/\R 19=.int .i64 (k:Int)/\I (qK v.secs i++BB v.secs i v.secs[i].rows k) W')
    (λr=>(r.1=.exit 2/\r.2.1 0=f/\r.2.1 3=.int .i64 (bW (v.secs.take (i+1)))/\r.2.1 9=sv/\r.2.1 10=.int .i64 (v.secs.length:Int)/\r.2.1 11=.int .i64 (i:Int)/\I (qK v.secs (i+1)) r.2.2)\/(r.1=.ret/\Q r.2.2))
    ⟨h0,by rw[List.take_zero,show iY []=0 from rfl,Int.add_zero];exact h3,rfl,h9,h10,h11,rfl,rfl,rfl,by rw[show BB v.secs i v.secs[i].rows 0=[]from rfl,List.append_nil];exact hI2⟩ ?_ ?_ ?_
   ·rintro k R W' hk ⟨h0,h3,h4,h9,h10,h11,h17,h18,h19,hi'⟩;unfold jO;have e1:((k:Int)<(v.secs[i].rows.length:Int)):=by omega
    obtain⟨p,p1,p2⟩:=g2.get hk;obtain⟨c,W3,s1,s2,s3⟩:=step _ ⟨i,k,bW (v.secs.take i)+iY (v.secs[i].rows.take k),v.secs[i].rows[k]⟩ W' (a0J hi hk) hi';have hsb:=(sH r3 k).1;have hsn:=r3 _ (List.getElem_mem hk);have eb:=bA (P:=Tryz.prog) (W:=W3) (t:=3) (c:=false) (d:=false) (a:=bW (v.secs.take i)+iY (v.secs[i].rows.take k)) (b:=v.secs[i].rows[k]) (by omega) (by omega);simp only[SX,h0,h3,h4,h17,h18,h19,e1,p1,p2 _ (hS _ _ hi'),a8M,s1];cases c
    ·simp only[SX,aA];exact .inr ⟨by simp,.inr ⟨trivial,s3 rfl⟩⟩
    ·simp only[SX,eb,add1 k _ (by omega),aA];refine .inl ⟨trivial,h0,?_,h4,h9,h10,h11,h17,h18,rfl,?_⟩
     ·rw[oC hk,<-Int.add_assoc];rfl
     ·rw[qX _ _ _ hk,<-List.append_assoc];exact s2 rfl
   ·rintro R W' ⟨h0,h3,h4,h9,h10,h11,h17,h18,h19,hi'⟩;unfold jO;have e1:¬((v.secs[i].rows.length:Int)<(v.secs[i].rows.length:Int)):=by omega
    simp only[SX,h18,h19,e1,aA];refine⟨by simp,.inl ⟨trivial,h0,?_,h9,h10,h11,?_⟩⟩
    ·rw[oU hi];rw[List.take_length]at h3;exact h3
    ·rw[oQ _ hi];exact hi'
   ·rintro⟨x,R,W'⟩ hq;rcases hq with⟨rfl,h0,h3,h9,h10,h11,hi'⟩|⟨rfl,hq⟩
    ·simp only at h0 h3 h9 h10 h11 hi';simp only[SX,h11,add1 i _ (by omega),aA];exact .inl ⟨trivial,h0,h3,h9,h10,rfl,hi'⟩
    ·simp only[SX,aA];exact .inr ⟨by simp,.inr ⟨trivial,hq⟩⟩
  ·rintro R W' ⟨h0,h3,h9,h10,h11,hi'⟩;unfold nQ;have e1:¬((v.secs.length:Int)<(v.secs.length:Int)):=by omega
   simp only[SX,h10,h11,e1,aA];exact⟨by simp,.inl ⟨trivial,hi'⟩⟩
  ·rintro⟨x,R,W'⟩ hq;rcases hq with⟨rfl,hi'⟩|⟨rfl,hq⟩
   ·simp only[SX,aA];exact⟨trivial,.inl hi'⟩
   ·simp only[SX,aA];exact⟨trivial,.inr hq⟩
 obtain⟨⟨r,W'⟩,h1,h2,h3⟩:=main;simp only at h2 h3;subst h2;exact⟨W',by rw[DV h1,fD rfl],h3⟩
theorem a2l{v:Ven}{sv:Value}(W:AW):∃W1,aL (.func (.func 130) #[] #[]) [tL v sv] W=some (.func (.func 190) #[] #[.pointer (some ⟨W.next,0,none⟩)],W1)/\Le W W1/\W.next<W1.next/\(∀W',Le W1 W'->aR (.pointer (some ⟨W.next,3,none⟩)) W'=some (sv,W')):=by
 obtain⟨W1,hB,hle,hn,c4,c0,c3⟩:=a0V v sv W;refine⟨W1,?_,hle,hn,c3⟩;have:wQ aL (tL v sv) W=some (.func (.func 190) #[] #[.pointer (some ⟨W.next,0,none⟩)],W1):=by unfold wQ;simp only[SX,hB]
 rw[IV this,fD rfl]
theorem SE{v:Ven}{sv:Value}{W0 W:AW}{bx nt:Nat}{R:Nat->Value}{ps:Array Tmp}{ac bd:Code}(hs:Secs W0 sv v.secs)(hg:Good v.secs)
 (hb:aR (.pointer (some ⟨bx,3,none⟩)) (W.add (.loop .ready none R nt ps ac bd))=some (sv,W.add (.loop .ready none R nt ps ac bd)))(hp:ps.size=1)
 (J:List RowT->AW->Prop)(Q:X->AW->Prop)(h0:J [] (W.add (.loop .ready none R nt ps ac bd)))
 (hS:∀pre W',J pre W'->Le W0 W')(hA:∀pre W' cs,J pre W'->W.next<W'.next->J pre (W'.add (.cells cs)))(hP:∀pre W' o,J pre W'->J pre (W'.put W.next o))(hQ:∀x W' o,Q x W'->Q x (W'.put W.next o))
 (d:Nat)(has:∀r W' R',R'=nC ps.toList [UF r] R->gY Tryz.prog aL false nt ac LT R' W' pR=some (.normal,dQ R' (some d) (.pointer (some ⟨W'.next,0,none⟩)),W'.add (.cells [.int .i64 (r.sec:Int),.int .i64 (r.row:Int),.int .i64 r.first,.int .i64 r.many])))
 (step:∀pre r W' b R',R'=dQ (nC ps.toList [UF r] R) (some d) (.pointer (some ⟨b,0,none⟩))->pre++[r]<+:jG v.secs->J pre W'->W.next<W'.next->rwCells W' b=some [.int .i64 (r.sec:Int),.int .i64 (r.row:Int),.int .i64 r.first,.int .i64 r.many]->W.next<b->b<W'.next->
   Ok (gY Tryz.prog aL false nt bd LT R' W' pR) λq=>W'.next<=q.2.2.next/\q.2.2.get W.next=W'.get W.next/\((q.1=.normal/\J (pre++[r]) q.2.2)\/(q.1≠ .normal/\Q q.1 q.2.2))):
 ∃x W2,lW aL (.func (.func 190) #[] #[.pointer (some ⟨bx,0,none⟩)]) (.loop .ready none R nt ps ac bd) W=some (x,W2.kill W.next)/\((x=.normal/\J (jG v.secs) W2)\/(x≠ .normal/\Q x W2)):=by
 obtain⟨W2,h1,h2⟩:=a3g (f:=.func (.yield W.next) #[] #[]) (W:=W.add (.loop .ready none R nt ps ac bd)) hs hg hb
  (λpre W'=>J pre W'/\W.next<W'.next/\W'.get W.next=some (.loop .ready none R nt ps ac bd))
  (λW'=>∃x,x≠ .normal/\Q x W'/\W'.get W.next=some (.loop .done x.jump R nt ps ac bd))
  ⟨h0,by rw[AW.add_next];omega,AW.get_add _ _⟩ (λpre W' h=>hS _ _ h.1)
  (λpre W' cs h=>⟨hA _ _ _ h.1 h.2.1,by rw[AW.add_next];omega,by rw[AW.get_add_ne _ _ (by omega)];exact h.2.2⟩)
  (λpre r W' hpre ⟨hJ,hlt,hget⟩=>by
    have hJ2:=hP _ _ (.loop .busy none R nt ps ac bd) (hA _ _ [.int .i64 (r.sec:Int),.int .i64 (r.row:Int),.int .i64 r.first,.int .i64 r.many] hJ hlt);obtain⟨⟨x,R2,W3⟩,k1,k2,k3,k4⟩:=step pre r _ W'.next _ rfl hpre hJ2 (by rw[AW.put_next,AW.add_next];omega) (by rw[uF _ (by omega)];exact fG) hlt (by rw[AW.put_next,AW.add_next];omega);simp only at k1 k2 k3 k4;rw[AW.get_put]at k3;have hy:=JA (P:=Tryz.prog) (args:=[UF r]) hget (by rw[hp];rfl) (has r W' _ rfl) (by rw[AW.get_add_ne _ _ (by omega)];exact hget) k1 k3;have hn3:W.next<W3.next:=by rw[AW.put_next,AW.add_next]at k2;omega
    rcases k4 with⟨rfl,k4⟩|⟨kx,k4⟩
    ·exact⟨true,_,hy,λ_=>⟨hP _ _ _ k4,by rw[AW.put_next];exact hn3,AW.get_put _ _ _⟩,λh=>by cases h⟩
    ·refine⟨false,W3.put W.next (.loop .done x.jump R nt ps ac bd),?_,λh=>by(cases h),λ_=>⟨x,kx,hQ _ _ _ k4,AW.get_put _ _ _⟩⟩;refine hy.trans ?_;cases x with
     |normal=>exact absurd rfl kx
     |exit i=>rfl
     |ret=>rfl)
 rcases h2 with⟨h2,h3,h4⟩|⟨x,h2,h3,h4⟩
 ·exact⟨.normal,W2,zS h1 h4 (by simp),.inl ⟨rfl,h2⟩⟩
 ·exact⟨x,W2,FZ h1 h4,.inr ⟨h2,h3⟩⟩
theorem a2n{v:Ven}{sv:Value}{W0 W:AW}{bx nt:Nat}{R:Nat->Value}{ps:Array Tmp}{ac bd:Code}{ρ:Type}{K:X×AW->Option ρ}{G:ρ->Prop}(hs:Secs W0 sv v.secs)(hg:Good v.secs)
 (hb:aR (.pointer (some ⟨bx,3,none⟩)) (W.add (.loop .ready none R nt ps ac bd))=some (sv,W.add (.loop .ready none R nt ps ac bd)))(hp:ps.size=1)
 (J:List RowT->AW->Prop)(Q:X->AW->Prop)(h0:J [] (W.add (.loop .ready none R nt ps ac bd)))
 (hS:∀pre W',J pre W'->Le W0 W')(hA:∀pre W' cs,J pre W'->W.next<W'.next->J pre (W'.add (.cells cs)))(hP:∀pre W' o,J pre W'->J pre (W'.put W.next o))(hQ:∀x W' o,Q x W'->Q x (W'.put W.next o))
 (d:Nat)(has:∀r W' R',R'=nC ps.toList [UF r] R->gY Tryz.prog aL false nt ac LT R' W' pR=some (.normal,dQ R' (some d) (.pointer (some ⟨W'.next,0,none⟩)),W'.add (.cells [.int .i64 (r.sec:Int),.int .i64 (r.row:Int),.int .i64 r.first,.int .i64 r.many])))
 (step:∀pre r W' b R',R'=dQ (nC ps.toList [UF r] R) (some d) (.pointer (some ⟨b,0,none⟩))->pre++[r]<+:jG v.secs->J pre W'->W.next<W'.next->rwCells W' b=some [.int .i64 (r.sec:Int),.int .i64 (r.row:Int),.int .i64 r.first,.int .i64 r.many]->W.next<b->b<W'.next->
   Ok (gY Tryz.prog aL false nt bd LT R' W' pR) λq=>W'.next<=q.2.2.next/\q.2.2.get W.next=W'.get W.next/\((q.1=.normal/\J (pre++[r]) q.2.2)\/(q.1≠ .normal/\Q q.1 q.2.2)))
 (after:∀x W2,(x=.normal/\J (jG v.secs) W2)\/(x≠ .normal/\Q x W2)->Ok (K (x,W2.kill W.next)) G):
 Ok (aB (lW aL (.func (.func 190) #[] #[.pointer (some ⟨bx,0,none⟩)]) (.loop .ready none R nt ps ac bd) W) K) G:=by
 obtain⟨x,W2,h1,h2⟩:=SE hs hg hb hp J Q h0 hS hA hP hQ d has step;rw[h1,qO];exact after x W2 h2
def gU(l:List RowT):Int:=iY (l.map (·.many))
def Firsts:Int->List RowT->Prop
 |_,[]=>True
 |s,r::l=>r.first=s/\Firsts (s+r.many) l
theorem oF:gU []=0:=rfl
theorem jM(r:RowT)(l:List RowT):gU (r::l)=r.many+gU l:=rfl
theorem o5(a b:List RowT):gU (a++b)=gU a+gU b:=by
 induction a with
 |nil=>simp[oF]
 |cons r a ih=>rw[List.cons_append,jM,jM,ih];omega
theorem Firsts.append:∀{a b:List RowT} {s:Int},Firsts s a->Firsts (s+gU a) b->Firsts s (a++b)
 |[],_,s,_,h=>by rw[oF,Int.add_zero]at h;exact h
 |r::a,b,s,⟨h1,h2⟩,h=>⟨h1,Firsts.append h2 (by rw[jM,<-Int.add_assoc]at h;exact h)⟩
theorem Firsts.at:∀{a b:List RowT} {r:RowT} {s:Int},Firsts s (a++r::b)->r.first=s+gU a
 |[],_,_,s,⟨h,_⟩=>by rw[h,oF,Int.add_zero]
 |x::a,b,r,s,⟨_,h⟩=>by rw[Firsts.at h,jM,Int.add_assoc]
theorem II(l:List Sec)(i:Nat)(rows:List Int):∀{k:Nat},k<=rows.length->gU (BB l i rows k)=iY (rows.take k)
 |0,_=>rfl
 |k+1,hk=>by rw[qX l i rows (by omega),o5,II l i rows (by omega),oC (by omega),jM,oF,Int.add_zero]
theorem CK(l:List Sec)(i:Nat)(rows:List Int):∀{k:Nat},k<=rows.length->Firsts (bW (l.take i)) (BB l i rows k)
 |0,_=>trivial
 |k+1,hk=>by rw[qX l i rows (by omega)];exact(CK l i rows (by omega)).append ⟨by rw[II l i rows (by omega)],trivial⟩
theorem BI(l:List Sec):∀{n:Nat},n<=l.length->gU (qK l n)=bW (l.take n)
 |0,_=>rfl
 |n+1,hn=>by rw[oQ l (by omega),o5,BI l (by omega),II l n _ (Nat.le_refl _),oU (by omega),List.take_length]
theorem xW(l:List Sec):∀{n:Nat},n<=l.length->Firsts 0 (qK l n)
 |0,_=>trivial
 |n+1,hn=>by rw[oQ l (by omega)];refine(xW l (by omega)).append ?_;rw[BI l (by omega),Int.zero_add];exact CK l n _ (Nat.le_refl _)
theorem Q9(l:List Sec):gU (jG l)=bW l:=by have:=BI l (Nat.le_refl l.length);rwa [List.take_length]at this
theorem Q5(l:List Sec):Firsts 0 (jG l):=xW l (Nat.le_refl _)
def RowOf(l:List Sec)(r:RowT):Prop:=∃(hi:r.sec<l.length) (hk:r.row<l[r.sec].rows.length),r.many=l[r.sec].rows[r.row]
theorem FQ{l:List Sec}{r:RowT}(h:r∈jG l):RowOf l r:=by unfold jG qK at h;obtain⟨i,hi,h⟩:=List.mem_flatMap.1 h;rw[List.mem_range]at hi;rw[List.getElem?_eq_getElem hi]at h;unfold BB at h;obtain⟨k,hk,rfl⟩:=List.mem_map.1 h;rw[List.mem_range]at hk;exact⟨hi,hk,by simp[List.getD_eq_getElem?_getD,List.getElem?_eq_getElem hk]⟩
theorem RowOf.many{l:List Sec}{r:RowT}(h:RowOf l r)(hg:Good l):1<=r.many/\r.many<=64/\r.sec<8/\r.row<16:=by obtain⟨hi,hk,hm⟩:=h;obtain⟨_,h2,h3⟩:=hg.rows _ (List.getElem_mem hi);have:=h3 _ (List.getElem_mem hk);have:=hg.len;omega
theorem JO{l:List RowT}(h:∀r∈l,1<=r.many):(l.length:Int)<=gU l:=by
 induction l with
 |nil=>simp[oF]
 |cons r l ih=>
  have h1:=h r (by simp);have h2:=ih λx hx=>h x (by simp[hx])
  rw[jM,List.length_cons];omega
theorem JS{a l:List RowT}(h:a<+:l)(hm:∀r∈l,1<=r.many):0<=gU a/\gU a<=gU l:=by
 obtain⟨b,rfl⟩:=h;have h1:=JO (l:=a) λr hr=>hm r (by simp[hr])
 have h2:=JO (l:=b) λr hr=>hm r (by simp[hr])
 rw[o5];omega
theorem YK{l:List Sec}(hg:Good l):0<=bW l/\bW l<=8192:=by have h:=(F5 hg (Nat.le_refl l.length));rw[List.take_length]at h;have:=hg.len;omega
theorem a1V{l:List Sec}(hg:Good l){pre:List RowT}{r:RowT}(h:pre++[r]<+:jG l):RowOf l r/\r.first=gU pre/\0<=gU pre/\gU (pre++[r])<=8192/\1<=r.many/\r.many<=64/\gU (pre++[r])=gU pre+r.many:=by
 have hm:∀r∈jG l,1<=r.many:=λr hr=>((FQ hr).many hg).1
 have hr:r∈jG l:=h.subset (by simp);have h1:=JS h hm;have h2:=JS ((List.prefix_append pre [r]).trans h) hm;rw[Q9]at h1;obtain⟨b,hb⟩:=h;have hf:=Q5 l;rw[<-hb,List.append_assoc]at hf;have:=Firsts.at hf;have hx:=(FQ hr).many hg;have:=YK hg;refine⟨FQ hr,by omega,by omega,by omega,by omega,by omega,?_⟩;rw[o5,jM,oF,Int.add_zero]
theorem oL3(x:Value)(W:AW):PH Tryz.prog 3 x W=aR x W:=by kernel_rfl
theorem al3(W:AW):dP Tryz.prog 3 W=some (.pointer (some ⟨W.next,0,none⟩),W.add (.cells [.int .i64 0])):=Eq.trans (by kernel_rfl) rfl
theorem a7H(W:AW):dP Tryz.prog 210 W=some (.pointer (some ⟨W.next,0,none⟩),W.add (.cells [.int .i64 0,.int .i64 0,.int .i64 0,.int .i64 0])):=Eq.trans (by kernel_rfl) rfl
theorem a8y{b:Nat}{a c d e x y z u:Value}{W:AW}(h:rwCells W b=some [x,y,z,u])(h1:Eng.one a=true)(h2:Eng.one c=true)(h3:Eng.one d=true)(h4:Eng.one e=true):mY 4 (.pointer (some ⟨b,0,none⟩)) (.agg #[a,c,d,e]) W=some (undef,W.put b (.cells [a,c,d,e])):=by rw[TZ,h,Option.bind_some];have hc:(Value.agg #[a,c,d,e]).cells=#[a,c,d,e]:=K4 _;rw[hc,if_pos ⟨rfl,by simp,by simp[h1,h2,h3,h4]⟩];rfl
theorem stI{b:Nat}{x:Value}{n:Int}{W:AW}(h:rwCells W b=some [x]):mY 1 (.pointer (some ⟨b,0,none⟩)) (.int .i64 n) W=some (undef,W.put b (.cells [.int .i64 n])):=by rw[a2Y,h];rfl
theorem ldI{b:Nat}{x:Value}{W:AW}(h:rwCells W b=some [x]):aR (.pointer (some ⟨b,0,none⟩)) W=some (x,W):=bU (fE h) rfl
theorem a0e{v:Ven}{sv:Value}{W:AW}(hs:SecsC W sv v.secs)(hv:v.secs.length<1000):aL (.func (.func 67) #[] #[]) [tL v sv] W=some (.tuple #[.int .i64 (jB v).1,.int .i64 (jB v).2],W):=by
 refine aT rfl ?_ FD;unfold CW jB;obtain⟨W1,hB,hle,hn,c4,c0,c3⟩:=a0V v sv W;have l2:Le W1 (W1.add (.cells [.int .i64 0])):=(Le.refl W1).add _;have hr:rwCells (W1.add (.cells [.int .i64 0])) W1.next=some [.int .i64 0]:=fG;have hn2:W1.next<(W1.add (.cells [.int .i64 0])).next:=by rw[AW.add_next];omega
 simp only[SX,hB,al3];generalize W1.add (.cells [.int .i64 0])=W2 at *;simp only[SX,c4 _ l2,OU (hs.mono (hle.trans l2)) hv];by_cases he:(sI v).2=0;case neg=>simp only[SX,he,if_false,stI hr,I8,oL3,ldI (pX _),Option.bind_some,aA];exact⟨trivial,(hle.trans l2).put (by have:=hle.next;omega) _⟩
 obtain⟨hg,-⟩:=vK he;obtain⟨W3,q1,q2,q3,q4⟩:=a2l (v:=v) (sv:=sv) W2;have l3:W1.next<W3.next:=by have:=q2.next;omega
 simp only[SX,decide_eq_true he,c4 _ l2,q1,if_pos he];refine a2n (hs.mono hle).1 hg (q4 _ ((Le.refl _).add _)) rfl (λpre W'=>Le W1 W'/\rwCells W' W1.next=some [.int .i64 (gU pre)]) (λ_ _=>False) ⟨(l2.trans q2).add _,by rw[D6 _ l3,q2.rwCells hn2];exact hr⟩ (λ_ _ h=>h.1)
  (λpre W' cs h hl=>⟨h.1.add _,by rw[D6 _ (by omega)];exact h.2⟩) (λpre W' o h=>⟨h.1.put (by omega) _,by rw[uF _ (by omega)];exact h.2⟩) (λ_ _ _ h=>h) 6 ?_ ?_ ?_
 ·intro r W' R' hR;have r17:R' 17=UF r:=by rw[hR];rfl
  rw[xK];unfold tF;simp only[SX,a7H,r17,a8y fG (rJ _ _) (rJ _ _) (rJ _ _) (rJ _ _),qD]
 ·intro pre r W' b R' hR hpre ⟨h1,h2⟩ hl hb hb1 hb2;have r2:R' 2=.pointer (some ⟨W1.next,0,none⟩):=by rw[hR];rfl
  have r6:R' 6=.pointer (some ⟨b,0,none⟩):=by rw[hR];rfl
  clear hR;rw[xO];unfold sS;obtain⟨k1,k2,k3,k4,k5,k6,k7⟩:=a1V hg hpre;have ea:=bA (P:=Tryz.prog) (W:=W') (t:=3) (c:=false) (d:=false) (a:=gU pre) (b:=r.many) (by omega) (by omega);simp only[SX,r2,r6,ldI h2,lJ (o:=3) hb rfl,ea,stI h2,Nat.zero_add,aA];exact⟨by rw[AW.put_next];omega,by rw[AW.get_put_ne _ _ (by omega)],.inl ⟨trivial,h1.put (Nat.le_refl _) _,by rw[k7];exact pX _⟩⟩
 ·rintro x W4 (⟨rfl,h1,h2⟩|⟨_,h⟩);case inr=>exact h.elim
  have h3:rwCells (W4.kill W3.next) W1.next=some [.int .i64 (gU (jG v.secs))]:=by rw[<-h2];unfold rwCells;rw[AW.get_kill_ne _ (by omega)]
  simp only[SX,ldI h3,stI h3,I8,oL3,ldI (pX _),Option.bind_some,Q9,aA];exact⟨trivial,(hle.trans (h1.kill (by omega))).put (by have:=hle.next;omega) _⟩
abbrev a9y(r:RowT):List Value:=[.int .i64 (r.sec:Int),.int .i64 (r.row:Int),.int .i64 r.first,.int .i64 r.many]
def a5W(seat:Int)(r:RowT):Bool:=decide (r.first<=seat)&&decide (seat<r.first+r.many)
abbrev zs:List Value:=[.int .i64 0,.int .i64 0,.int .i64 0,.int .i64 0]
abbrev a7e:RowT:=⟨0,0,0,0⟩
def OB(v:Ven)(seat:Int):RowT×Int:=if(sI v).2=0 then(match(jG v.secs).find? (a5W seat)with
 |some r=>(r,0)
 |none=>(a7e,4))else(a7e,(sI v).2)
def a0a(sec:Int)(r:RowT):Bool:=decide ((r.sec:Int)=sec)
def a8u:List RowT->Int
 |[]=>0
 |r::_=>r.first
def ofE(v:Ven)(sec:Int):Int×Int×Int:=if(sI v).2=0 then
 if gU ((jG v.secs).filter (a0a sec))=0 then(0,0,4)else(a8u ((jG v.secs).filter (a0a sec)),gU ((jG v.secs).filter (a0a sec)),0)
 else(0,0,(sI v).2)
def a8A(v:Ven)(seat:Int):YF×Int:=if(OB v seat).2=0 then(((OB v seat).1.sec,(OB v seat).1.row,(seat-(OB v seat).1.first).toNat),0)else((0,0,0),(OB v seat).2)
abbrev a7N(p:YF):Value:=.agg #[.int .i64 (p.1:Int),.int .i64 (p.2.1:Int),.int .i64 (p.2.2:Int)]
theorem Plcs.get{W:AW}{v:Value}{l:List YF}(h:Plcs W v l){i:Nat}(hi:i<l.length):∃b o,(∀W' k,jS 3 v (.int k (i:Int)) W'=some (.pointer (some ⟨b,o,none⟩),W'))/\
 ∀W',Le W W'->aR (.pointer (some ⟨b,o,none⟩)) W'=some (.int .i64 (l[i].1:Int),W')/\aR (.pointer (some ⟨b,o+1,none⟩)) W'=some (.int .i64 (l[i].2.1:Int),W')/\jV 3 (.pointer (some ⟨b,o,none⟩)) W'=some (a7N l[i],W'):=by
 obtain⟨a,c,rfl,h⟩:=h;rcases h with rfl|⟨b,o,cs,rfl,hb,hc,hat⟩
 ·simp at hi
 ·refine⟨b,o+i*3,λW' k=>nM hi,λW' hle=>?_⟩;have hc':=(hle.cellsAt hb).trans hc;obtain⟨h1,h2,h3⟩:=hat i hi;refine⟨bU hc' h1,bU hc' h2,?_⟩;have:=a1E h1 h2 h3;rw[xA,hc',Option.bind_some,this];rfl
def a8H{α:Type}(p:α->Bool)(l:List α):Nat:=if(l.filter p).length=0 then 0 else l.findIdx p
def RX(sec:Int)(q:YF):Bool:=decide ((q.1:Int)=sec)
def a7B(v:Ven)(sec:Int):Int×Int×Int:=if(sI v).2=0 then
 if((xP v.secs).filter (RX sec)).length=0 then(0,0,4)else((a8H (RX sec) (xP v.secs):Nat),(((xP v.secs).filter (RX sec)).length:Nat),0)
 else(0,0,(sI v).2)
def a9f(r:RowT):List YF:=Z5 r.sec r.row r.many.toNat
def a5w(v:Ven)(seat:Int):YF×Int:=if(jB v).2=0 then(if seat<0\/(jB v).1<=seat then((0,0,0),4)else((xP v.secs).getD seat.toNat (0,0,0),0))else((0,0,0),(jB v).2)
end Go.Proofs.YtnigceddndemkaaGreatDoor
namespace Go.Proofs.YtnigceddndemkaaGreatDoor.Ho
open Go Go.Eng Go.Hp
set_option maxRecDepth 100000
theorem Gr.mono{W W':AW}{A B:Nat->Prop}(h:Gr W W' A)(hs:∀b,A b->B b):Gr W W' B:=⟨h.next,λb hb hn=>h.get b hb λha=>hn (hs b ha)⟩
theorem Le.gr{W W':AW}(h:Le W W')(In:Nat->Prop):Gr W W' In:=⟨h.next,λb hb _=>h.get b hb⟩
structure St where
 q:Nat
 mh:Nat
 hm:Nat
 nx:Int
 n:Nat
 f:Nat->En
abbrev St.es(s:St):List (Int×Int):=xC s.n s.f
abbrev HT(W:AW)(In:Nat->Prop)(H:Nat)(many:Nat)(s:St):Prop:=HS W In H s.q s.mh s.hm (many:Int) s.nx s.n s.f
def SlS(W:AW)(B:Nat)(v:Value)(xs:List SeT):Prop:=(xs=[]/\v=.slice none 0 0)\/(xs≠[]/\B<W.next/\v=.slice (some ⟨B,0,none⟩) xs.length (bQ+5)/\W.get B=some (.cells (xs.flatMap nI)))
section
variable {W W':AW} {B:Nat} {v:Value} {xs:List SeT}
theorem SlS.keep(h:SlS W B v xs)(hn:W.next<=W'.next)(hg:xs≠[]->W'.get B=W.get B):SlS W' B v xs:=by
 rcases h with h|⟨h0,h1,h2,h3⟩
 ·exact .inl h
 ·exact .inr ⟨h0,by omega,h2,by rw[hg h0];exact h3⟩
theorem SlS.lt(h:SlS W B v xs)(h0:xs≠[]):B<W.next:=by
 rcases h with⟨h,-⟩|⟨-,h1,-⟩
 ·exact absurd h h0
 ·exact h1
theorem SlS.ix(h:SlS W B v xs){j:Nat}{x:SeT}(hj:xs[j]? =some x)(W':AW)(k:IntKind):jS 5 v (.int k (j:Int)) W'=some (.pointer (some ⟨B,j*5,none⟩),W'):=by
 obtain⟨hi,-⟩:=List.getElem?_eq_some_iff.1 hj;rcases h with⟨rfl,-⟩|⟨h0,h1,rfl,h3⟩
 ·simp at hi
 ·have:=nM (W:=W') (z:=5) (b:=B) (o:=0) (l:=xs.length) (c:=bQ+5) (i:=j) (k:=k) hi;rwa [Nat.zero_add]at this
theorem SlS.cells(h:SlS W B v xs){j:Nat}{x:SeT}(hj:xs[j]? =some x):W.get B=some (.cells (xs.flatMap nI)):=by
 obtain⟨hi,-⟩:=List.getElem?_eq_some_iff.1 hj;rcases h with⟨rfl,-⟩|⟨h0,h1,rfl,h3⟩
 ·simp at hi
 ·exact h3
theorem SlS.all(h:SlS W B v xs){j:Nat}{x:SeT}(hj:xs[j]? =some x):jV 5 (.pointer (some ⟨B,j*5,none⟩)) W=some (GX x,W):=by rw[xA,aZ (h.cells hj)];simp only[Option.bind_some,JK gN hj,gN,if_true]
theorem SlS.st(h:SlS W B v xs){j:Nat}{x:SeT}(hj:xs[j]? =some x):aR (.pointer (some ⟨B,j*5,none⟩)) W=some (.int .i64 x.st,W):=bU (aZ (h.cells hj)) (mJ (o:=0) gN hj (by omega))
theorem SlS.put(h:SlS W B v xs){j:Nat}{x:SeT}(hj:xs[j]? =some x)(y:SeT):mY 5 (.pointer (some ⟨B,j*5,none⟩)) (GX y) W=some (undef,W.put B (.cells ((xs.set j y).flatMap nI)))/\SlS (W.put B (.cells ((xs.set j y).flatMap nI))) B v (xs.set j y):=by
 obtain⟨hi,-⟩:=List.getElem?_eq_some_iff.1 hj;refine⟨?_,?_⟩
 ·have:=H5 (n:=5) (b:=B) (o:=j*5) (v:=GX y) (h.cells hj) rfl (by show j*5+5<=_;rw[aN gN];omega) rfl;rw[this];show some (undef,W.put B (.cells (iB (xs.flatMap nI) (j*5) (nI y))))=_;rw[I6 gN hj]
 ·rcases h with⟨rfl,-⟩|⟨h0,h1,rfl,h3⟩
  ·simp at hi
  ·exact .inr ⟨λe=>h0 ((List.set_eq_nil_iff _ _).1 e),h1,by rw[List.length_set],AW.get_put _ _ _⟩
theorem SlS.row(h:SlS W B v xs):SeL W v xs:=by
 have:Lst 0 W 5 nI v xs:=by
  rcases h with h|⟨h0,h1,h2,h3⟩
  ·exact .inl h
  ·exact .inr ⟨h0,B,Nat.zero_le _,h1,h2,h3⟩
 exact Lst.seats this
end
structure Md where
 M:Nat
 SB:Nat
 k:Nat
 many:Nat
 v:Ven
 sv:Value
 W0:AW
 T:Nat->Nat
 H:Nat->Nat
 tv:Nat->Value
 A:Nat->Nat->Prop
 s:Nat->St
def shE(H:Nat->Nat)(tv:Nat->Value)(i:Nat):List Value:=[hP (H i),tv i]
theorem yI(H:Nat->Nat)(tv:Nat->Value)(i:Nat):(shE H tv i).length=2:=rfl
def shC(k:Nat)(H:Nat->Nat)(tv:Nat->Value):List Value:=(List.range k).flatMap (shE H tv)
abbrev mV(M:Nat):Value:=.pointer (some ⟨M,0,none⟩)
structure MapP (K:Nat->Prop) (V:AW) (d:Md) (l:List SeT) (e:Nat->List (Int×Int)):Prop where
 up:∀b,V.next<=b->K b
 mc:V.get d.M=some (.cells [.int .i64 d.v.sh,.int .i64 d.v.ttl,.int .i64 d.v.ses,d.sv,.int .i64 (d.many:Int),.slice (some ⟨d.SB,0,none⟩) d.k d.k])
 ml:d.M<V.next
 kM:K d.M
 sc:V.get d.SB=some (.cells (shC d.k d.H d.tv))
 sl:d.SB<V.next
 sk:K d.SB
 ne:d.SB≠d.M
 vk:d.v.sh=(d.k:Int)
 kp:1<=d.k/\d.k<=16
 mn:d.many<=4096
 ll:l.length<=d.many
 col:∀i,i<d.k->SlS V (d.T i) (d.tv i) (dO l d.k i)
 tk:∀i,i<d.k->dO l d.k i≠[]->K (d.T i)/\d.T i≠d.M/\d.T i≠d.SB
 tt:∀i j,i<d.k->j<d.k->dO l d.k i≠[]->dO l d.k j≠[]->d.T i=d.T j->i=j
 ho:∀i,i<d.k->HT V (d.A i) (d.H i) d.many (d.s i)
 al:∀i,i<d.k->∀b,d.A i b->b<V.next
 ak:∀i,i<d.k->∀b,d.A i b->K b
 am:∀i,i<d.k->∀b,d.A i b->b≠d.M/\b≠d.SB
 at_:∀i j,i<d.k->j<d.k->dO l d.k j≠[]->¬d.A i (d.T j)
 aa:∀i j,i<d.k->j<d.k->∀b,d.A i b->d.A j b->i=j
 es:∀i,i<d.k->(d.s i).es.Perm (e i)
 w0:Le d.W0 V
 wk:∀b,K b->d.W0.next<=b
 secs:SecsC d.W0 d.sv d.v.secs
section
variable {K:Nat->Prop} {V:AW} {d:Md} {l:List SeT} {e:Nat->List (Int×Int)}
theorem a8a:((#[137]:Array TypeId)[0]?).bind Tryz.prog.underlying=some (.slice 144):=by kernel_rfl
theorem MapP.l4(h:MapP K V d l e):aR (.pointer (some ⟨d.M,4,none⟩)) V=some (.int .i64 (d.many:Int),V):=lJ (dB h.mc) rfl
theorem MapP.l5(h:MapP K V d l e):aR (.pointer (some ⟨d.M,5,none⟩)) V=some (.slice (some ⟨d.SB,0,none⟩) d.k d.k,V):=lJ (dB h.mc) rfl
theorem MapP.lv(h:MapP K V d l e):jV 4 (.pointer (some ⟨d.M,0,none⟩)) V=some (tL d.v d.sv,V):=qB (aZ h.mc) rfl
theorem KU(b k c:Nat)(W:AW):aF Tryz.prog .len #[137] 3 #[false] [.slice (some ⟨b,0,none⟩) k c] W=some (.int .i64 (k:Int),W):=iA a8a _ _ _
theorem UZ{k i:Nat}(H:Nat->Nat)(tv:Nat->Value)(hi:i<k):(shC k H tv)[i*2]? =some (hP (H i))/\(shC k H tv)[i*2+1]? =some (tv i):=by have hr:(List.range k)[i]? =some i:=List.getElem?_range hi;exact⟨mJ (o:=0) (yI H tv) hr (by omega),mJ (o:=1) (yI H tv) hr (by omega)⟩
theorem MapP.h0(h:MapP K V d l e){i:Nat}(hi:i<d.k):aR (.pointer (some ⟨d.SB,i*2,none⟩)) V=some (hP (d.H i),V):=lJ (dB h.sc) (UZ _ _ hi).1
theorem MapP.h1(h:MapP K V d l e){i:Nat}(hi:i<d.k):aR (.pointer (some ⟨d.SB,i*2+1,none⟩)) V=some (d.tv i,V):=lJ (dB h.sc) (UZ _ _ hi).2
theorem a1a{b k i:Nat}(hi:i<k)(W:AW)(q:IntKind):jS 2 (.slice (some ⟨b,0,none⟩) k k) (.int q (i:Int)) W=some (.pointer (some ⟨b,i*2,none⟩),W):=by have:=nM (W:=W) (z:=2) (b:=b) (o:=0) (l:=k) (c:=k) (i:=i) (k:=q) hi;rwa [Nat.zero_add]at this
theorem a6K(s k:Nat)(hk:0<k)(t:TypeId)(c d:Bool)(W:AW):aD Tryz.prog .rem t c d (.int .i64 (s:Int)) (.int .i64 (k:Int)) W=some (.int .i64 ((s % k:Nat):Int),W):=by rw[a1b (by omega)];rw[Int.tmod_eq_emod_of_nonneg (by omega)];rfl
theorem u28:Tryz.prog.underlying 28=some (.pointer 139):=by kernel_rfl
theorem a7w(b:Nat)(c d:Bool)(W:AW):aD Tryz.prog .neq 28 c d (.pointer (some ⟨b,0,none⟩)) (.pointer none) W=some (.bool true,W):=by unfold aD iV gK;simp only[u28];rfl
theorem a4c(h:MapP K V d l e):aL (.func (.func 84) #[] #[]) [mV d.M] V=some (.bool true,V):=by refine aT rfl ?_ BD;unfold wM;have hk:decide ((0:Int)<(d.k:Int))=true:=decide_eq_true (by have:=h.kp.1;omega);simp only[SX,a7w,aI,Nat.zero_add,h.l5,KU,hk,aA];exact⟨trivial,Le.refl _⟩
end
end Go.Proofs.YtnigceddndemkaaGreatDoor.Ho
