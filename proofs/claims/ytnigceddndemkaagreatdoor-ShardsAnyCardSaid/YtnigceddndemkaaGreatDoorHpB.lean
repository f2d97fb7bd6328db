/- Heaps in plain: one that may have to go either way. -/
import Derived.Test.YtnigceddndemkaaGreatDoorHpA
set_option linter.unusedVariables false
set_option linter.unusedSimpArgs false
set_option linter.unusedSectionVars false
namespace Go.Hp
variable {α:Type}
def Odd(lt:α->α->Bool)(n:Nat)(f:Nat->α)(i:Nat):Prop:=
 (∀k,0<k->k<n->k≠i->kE k≠i->lt (f k) (f (kE k))=false)/\∀k,0<k->k<n->kE k=i->0<i->lt (f k) (f (kE i))=false
section
variable {lt:α->α->Bool} (o:Ord lt)
include o
theorem Odd.step{n i j:Nat}{f:Nat->α}(h:Odd lt n f i)(hj:j=2*i+1\/j=2*i+2)(hn:j<n)(hl:lt (f j) (f i)=true)
 (hmin:∀k,(k=2*i+1\/k=2*i+2)->k<n->lt (f k) (f j)=false):Dn lt n (vV f i j) j:=by
 have hpj:kE j=i:=by unfold kE;omega
 refine⟨λk h0 h1 h2=>?_,λk h0 h1 h2 h3=>?_⟩
 ·have hpk:=kL h0;by_cases e1:k=j
  ·subst e1;rw[hpj,y9,tF];exact o.asym _ _ hl
  ·by_cases e2:kE k=i
   ·rw[e2,tF,iF _ (by omega) e1];exact hmin k (by unfold kE at e2;omega) h1
   ·by_cases e3:k=i
    ·subst e3;rw[tF,iF _ (by omega) (by omega)];exact h.2 j (by omega) hn hpj h0
    ·rw[iF _ e3 e1,iF _ e2 h2];exact h.1 k h0 h1 e3 e2
 ·rw[hpj,tF];have hk:k≠i:=by unfold kE at h2;omega
  have hkj:k≠j:=λe=>by rw[e]at h2;unfold kE at h2;omega
  rw[iF _ hk hkj];have:=h.1 k h0 h1 hk (by rw[h2];omega);rw[h2]at this;exact this
omit o in
theorem Odd.stay{n i:Nat}{f:Nat->α}(h:Odd lt n f i)(hd:∀k,(k=2*i+1\/k=2*i+2)->k<n->lt (f k) (f i)=false):Up lt n f i:=by
 refine⟨λk h0 h1 h2=>?_,h.2⟩;by_cases e:kE k=i
 ·rw[e];exact hd k (by unfold kE at e;omega) h1
 ·exact h.1 k h0 h1 h2 e
theorem Heap.change{n i:Nat}{f g:Nat->α}(h:Heap lt n f)(hg:∀j,j<n->j≠i->g j=f j):Odd lt n g i:=by
 refine⟨λk h0 h1 h2 h3=>?_,λk h0 h1 h2 h3=>?_⟩
 ·have:=kL h0;rw[hg k h1 h2,hg (kE k) (by omega) h3];exact h k h0 h1
 ·have:=kL h0;have h4:=kL h3;rw[hg k h1 (by omega),hg (kE i) (by omega) (by omega)];have a:=h k h0 h1;rw[h2]at a;exact o.neg _ _ _ (h i h3 (by omega)) a
omit o in
theorem Heap.less{n m:Nat}{f:Nat->α}(h:Heap lt n f)(hm:m<=n):Heap lt m f:=λk h0 h1=>h k h0 (by omega)
end
def St(lt:α->α->Bool)(i0 n:Nat)(f g:Nat->α)(i:Nat):Prop:=(i=i0/\g=f/\Odd lt n f i0)\/(i0<i/\Dn lt n g i)
def Fin(lt:α->α->Bool)(i0 n:Nat)(f g:Nat->α)(i:Nat):Prop:=(i=i0/\g=f/\Up lt n f i0)\/(i0<i/\Heap lt n g)
section
variable {lt:α->α->Bool} (o:Ord lt)
include o
theorem St.done{i0 n i:Nat}{f g:Nat->α}(h:St lt i0 n f g i)(hd:∀k,(k=2*i+1\/k=2*i+2)->k<n->lt (g k) (g i)=false):Fin lt i0 n f g i:=by
 rcases h with⟨rfl,rfl,h⟩|⟨h1,h⟩
 ·exact .inl ⟨rfl,rfl,h.stay hd⟩
 ·exact .inr ⟨h1,h.done o hd⟩
theorem St.step{i0 n i j:Nat}{f g:Nat->α}(h:St lt i0 n f g i)(hj:j=2*i+1\/j=2*i+2)(hn:j<n)(hl:lt (g j) (g i)=true)
 (hmin:∀k,(k=2*i+1\/k=2*i+2)->k<n->lt (g k) (g j)=false):St lt i0 n f (vV g i j) j:=by
 rcases h with⟨rfl,rfl,h⟩|⟨h1,h⟩
 ·exact .inr ⟨by omega,h.step o hj hn hl hmin⟩
 ·exact .inr ⟨by omega,h.step o hj hn hl hmin⟩
end
end Go.Hp
