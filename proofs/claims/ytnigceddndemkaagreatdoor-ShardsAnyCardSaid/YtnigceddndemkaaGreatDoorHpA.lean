/- Heaps in plain: sifting up and down. -/
set_option linter.unusedVariables false
set_option linter.unusedSimpArgs false
set_option linter.unusedSectionVars false
namespace Go.Hp
variable {α:Type}
structure Ord (lt:α->α->Bool):Prop where
 asym:∀a b,lt a b=true->lt b a=false
 neg:∀a b c,lt b a=false->lt c b=false->lt c a=false
def kE(k:Nat):Nat:=(k-1)/2
def vV(f:Nat->α)(i k:Nat):Nat->α:=λj=>if j=i then f k else if j=k then f i else f j
theorem tF(f:Nat->α)(i k:Nat):vV f i k i=f k:=if_pos rfl
theorem y9(f:Nat->α)(i k:Nat):vV f i k k=f i:=by
 unfold vV;by_cases h:k=i
 ·rw[if_pos h,h]
 ·rw[if_neg h,if_pos rfl]
theorem iF(f:Nat->α){i k j:Nat}(h1:j≠i)(h2:j≠k):vV f i k j=f j:=by unfold vV;rw[if_neg h1,if_neg h2]
def UF(i k:Nat):Nat->Nat:=vV id i k
theorem V9(f:Nat->α)(i k:Nat):vV f i k=λj=>f (UF i k j):=by
 funext j;unfold UF vV;by_cases h:j=i
 ·rw[if_pos h,if_pos h];rfl
 ·rw[if_neg h,if_neg h];by_cases h2:j=k
  ·rw[if_pos h2,if_pos h2];rfl
  ·rw[if_neg h2,if_neg h2];rfl
theorem BO{i k n j:Nat}(hi:i<n)(hk:k<n)(hj:j<n):UF i k j<n:=by
 unfold UF vV;split
 ·exact hk
 ·split
  ·exact hi
  ·exact hj
theorem DN(i k j:Nat):UF i k (UF i k j)=j:=by
 unfold UF vV;simp only[id];by_cases h:j=i
 ·subst h;rw[if_pos rfl];by_cases h2:k=j
  ·rw[if_pos h2,h2]
  ·rw[if_neg h2,if_pos rfl]
 ·rw[if_neg h];by_cases h2:j=k
  ·subst h2;rw[if_pos rfl,if_pos rfl]
  ·rw[if_neg h2,if_neg h,if_neg h2]
theorem a3m{i k n:Nat}(hi:i<n)(hk:k<n):((List.range n).map (UF i k)).Perm (List.range n):=by
 have hinj:∀a b,UF i k a=UF i k b->a=b:=λa b h=>by have:=congrArg (UF i k) h;rwa [DN,DN]at this
 have hnd:((List.range n).map (UF i k)).Nodup:=by rw[List.nodup_iff_pairwise_ne,List.pairwise_map];exact List.nodup_range.imp λ{a b} h e=>h (hinj a b e)
 refine(List.perm_ext_iff_of_nodup hnd List.nodup_range).2 λj=>?_
 rw[List.mem_map,List.mem_range];constructor
 ·rintro⟨a,ha,rfl⟩;exact BO hi hk (List.mem_range.1 ha)
 ·intro hj;exact⟨UF i k j,List.mem_range.2 (BO hi hk hj),DN _ _ _⟩
def all(n:Nat)(f:Nat->α):List α:=(List.range n).map f
theorem JN{i k n:Nat}(f:Nat->α)(hi:i<n)(hk:k<n):(all n (vV f i k)).Perm (all n f):=by unfold all;rw[V9];have:=(a3m hi hk).map f;rwa [List.map_map]at this
theorem ML(n:Nat)(f:Nat->α):all (n+1) f=all n f++[f n]:=by unfold all;rw[List.range_succ,List.map_append];rfl
theorem yY(n:Nat)(f:Nat->α):(all n f).length=n:=by simp[all]
theorem bP{n:Nat}{f:Nat->α}{a:α}:a∈all n f<->∃i,i<n/\f i=a:=by
 unfold all;rw[List.mem_map];constructor
 ·rintro⟨i,h,rfl⟩;exact⟨i,List.mem_range.1 h,rfl⟩
 ·rintro⟨i,h,rfl⟩;exact⟨i,List.mem_range.2 h,rfl⟩
def Heap(lt:α->α->Bool)(n:Nat)(f:Nat->α):Prop:=∀k,0<k->k<n->lt (f k) (f (kE k))=false
def Up(lt:α->α->Bool)(n:Nat)(f:Nat->α)(j:Nat):Prop:=
 (∀k,0<k->k<n->k≠j->lt (f k) (f (kE k))=false)/\∀k,0<k->k<n->kE k=j->0<j->lt (f k) (f (kE j))=false
def Dn(lt:α->α->Bool)(n:Nat)(f:Nat->α)(i:Nat):Prop:=
 (∀k,0<k->k<n->kE k≠i->lt (f k) (f (kE k))=false)/\∀k,0<k->k<n->kE k=i->0<i->lt (f k) (f (kE i))=false
theorem kL{k:Nat}(h:0<k):kE k<k:=by unfold kE;omega
section
variable {lt:α->α->Bool} (o:Ord lt)
include o
theorem Up.step{n j:Nat}{f:Nat->α}(h:Up lt n f j)(hj:0<j)(hn:j<n)(hl:lt (f j) (f (kE j))=true):Up lt n (vV f (kE j) j) (kE j):=by
 have hp:=kL hj;refine⟨λk h0 h1 h2=>?_,λk h0 h1 h2 h3=>?_⟩
 ·have hpk:=kL h0;by_cases e1:k=j
  ·subst e1;rw[y9,tF];exact o.asym _ _ hl
  ·rw[iF _ h2 e1];by_cases e2:kE k=j
   ·rw[e2,y9];exact h.2 k h0 h1 e2 hj
   ·by_cases e3:kE k=kE j
    ·rw[e3,tF];have:=h.1 k h0 h1 e1;rw[e3]at this;exact o.neg _ _ _ (o.asym _ _ hl) this
    ·rw[iF _ e3 e2];exact h.1 k h0 h1 e1
 ·have hpp:=kL h3;rw[iF (j:=kE (kE j)) _ (by omega) (by omega)];have hi:=h.1 (kE j) h3 (by omega) (by omega);by_cases e1:k=j
  ·subst e1;rw[y9];exact hi
  ·have hkp:k≠kE j:=λe=>by rw[e]at h2;omega
   rw[iF _ hkp e1];have:=h.1 k h0 h1 e1;rw[h2]at this;exact o.neg _ _ _ hi this
omit o in
theorem Up.done{n j:Nat}{f:Nat->α}(h:Up lt n f j)(hj:j=0\/lt (f j) (f (kE j))=false):Heap lt n f:=by
 intro k h0 h1;by_cases e:k=j
 ·subst e;rcases hj with hj|hj
  ·omega
  ·exact hj
 ·exact h.1 k h0 h1 e
theorem Dn.step{n i j:Nat}{f:Nat->α}(h:Dn lt n f i)(hj:j=2*i+1\/j=2*i+2)(hn:j<n)(hl:lt (f j) (f i)=true)
 (hmin:∀k,(k=2*i+1\/k=2*i+2)->k<n->lt (f k) (f j)=false):Dn lt n (vV f i j) j:=by
 have hpj:kE j=i:=by unfold kE;omega
 refine⟨λk h0 h1 h2=>?_,λk h0 h1 h2 h3=>?_⟩
 ·have hpk:=kL h0;by_cases e1:k=j
  ·subst e1;rw[hpj,y9,tF];exact o.asym _ _ hl
  ·by_cases e2:kE k=i
   ·rw[e2,tF,iF _ (by omega) e1];exact hmin k (by unfold kE at e2;omega) h1
   ·by_cases e3:k=i
    ·subst e3;rw[tF,iF _ (by omega) (by omega)];exact h.2 j (by omega) hn hpj h0
    ·rw[iF _ e3 e1,iF _ e2 h2];exact h.1 k h0 h1 e2
 ·rw[hpj,tF];have hk:k≠i:=by unfold kE at h2;omega
  have hkj:k≠j:=λe=>by rw[e]at h2;unfold kE at h2;omega
  rw[iF _ hk hkj];have:=h.1 k h0 h1 (by rw[h2];omega);rw[h2]at this;exact this
theorem Dn.done{n i:Nat}{f:Nat->α}(h:Dn lt n f i)(hd:∀k,(k=2*i+1\/k=2*i+2)->k<n->lt (f k) (f i)=false):Heap lt n f:=by
 intro k h0 h1;by_cases e:kE k=i
 ·rw[e];exact hd k (by unfold kE at e;omega) h1
 ·exact h.1 k h0 h1 e
theorem Heap.first{n:Nat}{f:Nat->α}(h:Heap lt n f):∀k,k<n->lt (f k) (f 0)=false:=by
 intro k;induction k using Nat.strongRecOn with
 |_ k ih=>
  intro hk;rcases Nat.eq_zero_or_pos k with rfl|h0
  ·cases hc:lt (f 0) (f 0)with
   |false=>rfl
   |true=>have:=o.asym _ _ hc;rw[hc]at this;exact this
  ·exact o.neg _ _ _ (ih (kE k) (kL h0) (by have:=kL h0;omega)) (h k h0 hk)
end
end Go.Hp
