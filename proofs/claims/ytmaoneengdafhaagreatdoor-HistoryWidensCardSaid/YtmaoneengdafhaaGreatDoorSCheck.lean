/- Whether an operation has just the fields of its kind: what the function answers, in whatever order the map's entries are laid and come. -/
import Derived.Test.YtmaoneengdafhaaGreatDoorSBaseW
import Derived.WalkKit
set_option linter.unusedVariables false
set_option linter.unusedSimpArgs false
set_option linter.unusedSectionVars false
set_option linter.defProp false
namespace Go.Proofs.YtmaoneengdafhaaGreatDoor
open Go Go.Eng Go.RowKit Go.Maps
def L7(k ow un se sc n to t1 t2 t3 t4 nw:Int):List Value:=[.af k,.int .u32 ow,.af un,.af se,.af sc,.af n,.int .u32 to,.int .u32 t1,.int .u32 t2,.int .u64 t3,.int .u64 t4,.af nw]
noncomputable def wH(i:Nat):Field:=match(Tryz.prog.fieldsOf 46).toList[i]? with
 |some f=>f
 |none=>⟨"",0,0,false, "", "",0⟩
def VE(a b c d:Int)(w:World):(do eqGuard .neq 46 (.tmp 34) (.tmp 35) (.agg #[.int .u32 a,.int .u32 b,.int .u64 c,.int .u64 d]) (.agg #[.int .u32 0,.int .u32 0,.int .u64 0,.int .u64 0]);binOp .neq 46 (.agg #[.int .u32 a,.int .u32 b,.int .u64 c,.int .u64 d]) (.agg #[.int .u32 0,.int .u32 0,.int .u64 0,.int .u64 0]):Sem Value).run Tryz.prog w=
 .ok (.bool (!((a==0)&&((b==0)&&((c==0)&&((d==0)&&true)))))) w:=
 UB (P:=Tryz.prog) (t:=46) (x:=.tmp 34) (y:=.tmp 35) (f0:=wH 0) (f1:=wH 1) (f2:=wH 2) (f3:=wH 3) (k0:=.u32) (k1:=.u32) (k2:=.u64) (k3:=.u64) (a:=a) (b:=b) (c:=c) (d:=d) (by kernel_rfl) (by kernel_rfl) (by kernel_rfl) (by kernel_rfl)
  (by decide+kernel) (by decide+kernel) (by decide+kernel) (by decide+kernel) (by kernel_rfl) (by kernel_rfl) (by kernel_rfl) (by kernel_rfl) (by kernel_rfl) (by kernel_rfl) (by kernel_rfl) (by kernel_rfl) (by kernel_rfl) (by kernel_rfl) (by kernel_rfl) (by kernel_rfl) w
set_option maxRecDepth 100000 in
def J1(k ow un se sc n to t1 t2 t3 t4 nw u:Int)(w:World)(Xs:¬k<1)(RN:¬12<k)(hu:w.cell? ⟨0,k.toNat,none⟩=some (.af u)):
 Calls Tryz.prog 51 #[.agg (kS k ow un se sc n to t1 t2 t3 t4 nw)] w λe w'=>e=.returned (.af (PP ow un se sc n to t1 t2 t3 t4 nw u))/\dx w w':=by
 show Calls Tryz.prog 51 #[.agg #[.af k,.int .u32 ow,.af un,.af se,.af sc,.af n,.int .u32 to,.int .u32 t1,.int .u32 t2,.int .u64 t3,.int .u64 t4,.af nw]] w λe w'=>e=.returned (.af (aiE (!decide (ow=0)) (!decide (un=0)) (!decide (se=0)) (!decide (sc=0)) (!decide (n=0)) (!decide (to=0)) (!((t1==0)&&((t2==0)&&((t3==0)&&((t4==0)&&true))))) (!decide (nw=0)) u))/\dx w w'
 go_enter Tryz.func51,Tryz.ntmps51;go_wp2;refine Ki (nt:=58) (TM:=115) (TK:=3) (TE:=4) (TT:=46) (B:=w.heap.size) (n:=12) (cs:=L7 k ow un se sc n to t1 t2 t3 t4 nw) (tk:=#[.int .u32 t1,.int .u32 t2,.int .u64 t3,.int .u64 t4]) (zk:=#[.int .u32 0,.int .u32 0,.int .u64 0,.int .u64 0])
  (b0:= !decide (ow=0)) (b1:= !decide (un=0)) (b2:= !decide (se=0)) (b3:= !decide (sc=0)) (b4:= !decide (n=0)) (b5:= !decide (to=0)) (b6:= !((t1==0)&&((t2==0)&&((t3==0)&&((t4==0)&&true))))) (b7:= !decide (nw=0)) (by kernel_rfl)
  (by kernel_rfl) (by kernel_rfl) (by kernel_rfl) (by kernel_rfl) (by kernel_rfl) (by kernel_rfl) (by kernel_rfl) (by kernel_rfl) (by kernel_rfl) (by kernel_rfl) (by kernel_rfl) rfl rfl (by kernel_rfl) (VE t1 t2 t3 t4) (by kernel_rfl) rfl (by decide) rfl Tryz.underlying115 Tryz.underlying3 Tryz.underlying4 ?_ ?_
 ·exact Yq w 48 (L7 k ow un se sc n to t1 t2 t3 t4 nw) rfl
 intro a' w' σ m r nn hq;obtain⟨ab8,afP,fb,Yo,hrel,KU,hnm,B1,hgm,Se,KY⟩:=hq;obtain⟨tmps,Xk⟩:=a';simp only at ab8 afP fb Yo;subst afP;obtain⟨xs,Za,rfl⟩:=ad1 ab8 rfl fb Yo;obtain⟨x14,x15,x16,x17,x18,x19,x20,x21,x22,x23,x24,x25,x26,x27,x28,x29,x30,x31,x32,x33,x34,x35,x36,x37,x38,x39,x40,rfl⟩:∃x14 x15 x16 x17 x18 x19 x20 x21 x22 x23 x24 x25 x26 x27 x28 x29 x30 x31 x32 x33 x34 x35 x36 x37 x38 x39 x40:Value,xs=[x14,x15,x16,x17,x18,x19,x20,x21,x22,x23,x24,x25,x26,x27,x28,x29,x30,x31,x32,x33,x34,x35,x36,x37,x38,x39,x40]:=by
  match xs,Za with
  |[x14,x15,x16,x17,x18,x19,x20,x21,x22,x23,x24,x25,x26,x27,x28,x29,x30,x31,x32,x33,x34,x35,x36,x37,x38,x39,x40],_=>exact⟨_,_,_,_,_,_,_,_,_,_,_,_,_,_,_,_,_,_,_,_,_,_,_,_,_,_,_,rfl⟩
 have hqw:=QO KU;have hbx:w'.cell? ⟨w.heap.size,0,none⟩=some (.af k):=To hrel (KU.sub 0 _ rfl) rfl rfl;have arV:w.heap.size+1<=r:=by simpa using Se
 generalize hb0:(!decide (ow=0))=b0 at KY;generalize Nx:(!decide (un=0))=b1 at KY;generalize nD:(!decide (se=0))=b2 at KY;generalize hb3:(!decide (sc=0))=b3 at KY;generalize hb4:(!decide (n=0))=b4 at KY;generalize hb5:(!decide (to=0))=b5 at KY;generalize hb6:(!((t1==0)&&((t2==0)&&((t3==0)&&((t4==0)&&true)))))=b6 at KY;generalize hb7:(!decide (nw=0))=b7 at KY;clear ab8 fb Yo KU hrel hnm B1 hgm Se Za;simp only[List.take,List.drop,vR,lM];go_wp2
 go_loopw [3] (λv wr=>∃(left:Lit->Bool) (sP:Nat),wr.ranges Tryz.prog 3 (plainElem Tryz.prog 4) m r nn (EW b0 b1 b2 b3 b4 b5 b6 b7) left sP/\dx w wr/\wr.cell? ⟨w.heap.size,0,none⟩=some (.af k)/\(∀kl,left kl=true->Maps.has (EW b0 b1 b2 b3 b4 b5 b6 b7) kl=true)/\
  v=.af (yG (!left (.af 1)&&b0) (!left (.af 2)&&b1) (!left (.af 4)&&b2) (!left (.af 8)&&b3) (!left (.af 16)&&b4) (!left (.af 32)&&b5) (!left (.af 64)&&b6) (!left (.af 128)&&b7)))
  (λ_ wr=>wr.rangeLeft m r)
 case atStart=>exact⟨_,_,KY,hqw,hbx,λ_ h=>h,rfl⟩
 case round=>
  obtain⟨left,sP,U9,hqr,hbr,ahI,rfl⟩:=hrel;have hur:=hqr.cell hu
  go_wp2_with (first
   |(at_next;refine AQ rfl _ rfl Tryz.underlying3 Tryz.underlying4 rfl U9 ?_ ?_)
   |go_in)
  ·intro Mg;simp only[Mg,Bool.not_false,np];go_wp2;all_goals go_ret
   all_goals refine⟨?_,hqr⟩
   all_goals(subst hb0;subst Nx;subst nD;subst hb3;subst hb4;subst hb5;subst hb6;subst hb7)
   ·rename_i ee;exact iH (λz=>Ending.returned (Value.int .i64 z)) (ap (by simpa using ee)).symm
   ·rename_i ee;exact iH (λz=>Ending.returned (Value.int .i64 z)) (aq (by simpa using ee)).symm
  ·rintro⟨x,c,w1,Nw,hl,oX,Uq,kW,ahu,ann,hen⟩;have h8:=Ti (ahI _ hl) oX;have uk:=Wi hl h8;have hq1:dx w w1:=hqr.other (by omega) ahu ann (xn U9) (xn Uq);have Nx:w1.cell? ⟨w.heap.size,0,none⟩=some (.af k):=by rw[World.cell?_of_block (ahu.block w.heap.size (by have:=P9 U9;omega) (λe=>by injection e with e;omega))];exact hbr
   have aav:∀kl,(λz:Lit=>left z&& !z.sameKey (.af x)) kl=true->Maps.has (EW b0 b1 b2 b3 b4 b5 b6 b7) kl=true:=λkl h=>ahI kl (by simp only[a8]at h;exact h.1)
   cases c
   ·go_wp2;exact⟨⟨_,Nw,Uq,hq1,Nx,aav,iH (Value.int .i64) (uk.1 rfl)⟩,by rw[Uq.left_eq,U9.left_eq];exact kW⟩
   ·go_wp2;exact⟨⟨_,Nw,Uq,hq1,Nx,aav,by have h2:=uk.2 rfl;simp only[Bool.not_and,Bool.not_not]at h2|-;try first|exact iH _ h2|exact iH _ h2.symm⟩,by rw[Uq.left_eq,U9.left_eq];exact kW⟩
set_option maxRecDepth 100000 in
def Gv(k ow un se sc n to t1 t2 t3 t4 nw:Int)(w:World)(hk:k<1\/12<k):
 Calls Tryz.prog 51 #[.agg (kS k ow un se sc n to t1 t2 t3 t4 nw)] w λe w'=>e=.returned (.af 2)/\dx w w':=by
 show Calls Tryz.prog 51 #[.agg #[.af k,.int .u32 ow,.af un,.af se,.af sc,.af n,.int .u32 to,.int .u32 t1,.int .u32 t2,.int .u64 t3,.int .u64 t4,.af nw]] w λe w'=>e=.returned (.af 2)/\dx w w'
 rcases hk with hk|hk
 ·go_enter Tryz.func51,Tryz.ntmps51;go_wp2;go_ret;exact⟨rfl,dx.box _ _ _⟩
 ·have Xs:¬k<1:=by omega
  go_enter Tryz.func51,Tryz.ntmps51;go_wp2;go_ret;exact⟨rfl,dx.box _ _ _⟩
def Xb:bI Tryz.prog ah.ng (Xv 51):=
 Vo (by decide) Tryz.func51 (by kernel_rfl) rfl J1 Gv
end Go.Proofs.YtmaoneengdafhaaGreatDoor
