/- Whether an operation has just the fields of its kind: what the function answers, in whatever order the map's entries are laid and come. -/
import Derived.Test.YtmaoneengdafhaaGreatDoorSBaseW
import Derived.WalkKit
set_option linter.unusedVariables false
set_option linter.unusedSimpArgs false
set_option linter.unusedSectionVars false
set_option linter.defProp false
namespace Go.Proofs.YtmaoneengdafhaaGreatDoor
open Go Go.Eng Go.RowKit Go.Maps
def RW(k ow un se sc n to t1 t2 t3 t4 nw:Int):List Value:=[.ae k,.int .u32 ow,.ae un,.ae se,.ae sc,.ae n,.int .u32 to,.int .u32 t1,.int .u32 t2,.int .u64 t3,.int .u64 t4,.ae nw]
noncomputable def A1(i:Nat):Field:=match(Tryz.prog.fieldsOf 46).toList[i]? with
 |some f=>f
 |none=>⟨"",0,0,false, "", "",0⟩
def adO(a b c d:Int)(w:World):(do eqGuard .neq 46 (.tmp 34) (.tmp 35) (.agg #[.int .u32 a,.int .u32 b,.int .u64 c,.int .u64 d]) (.agg #[.int .u32 0,.int .u32 0,.int .u64 0,.int .u64 0]);binOp .neq 46 (.agg #[.int .u32 a,.int .u32 b,.int .u64 c,.int .u64 d]) (.agg #[.int .u32 0,.int .u32 0,.int .u64 0,.int .u64 0]):Sem Value).run Tryz.prog w=
 .ok (.bool (!((a==0)&&((b==0)&&((c==0)&&((d==0)&&true)))))) w:=
 aas (P:=Tryz.prog) (t:=46) (x:=.tmp 34) (y:=.tmp 35) (f0:=A1 0) (f1:=A1 1) (f2:=A1 2) (f3:=A1 3) (k0:=.u32) (k1:=.u32) (k2:=.u64) (k3:=.u64) (a:=a) (b:=b) (c:=c) (d:=d) (by kernel_rfl) (by kernel_rfl) (by kernel_rfl) (by kernel_rfl)
  (by decide+kernel) (by decide+kernel) (by decide+kernel) (by decide+kernel) (by kernel_rfl) (by kernel_rfl) (by kernel_rfl) (by kernel_rfl) (by kernel_rfl) (by kernel_rfl) (by kernel_rfl) (by kernel_rfl) (by kernel_rfl) (by kernel_rfl) (by kernel_rfl) (by kernel_rfl) w
set_option maxRecDepth 100000 in
def Rm(k ow un se sc n to t1 t2 t3 t4 nw u:Int)(w:World)(hk1:¬k<1)(Xq:¬12<k)(hu:w.cell? ⟨0,k.toNat,none⟩=some (.ae u)):
 Calls Tryz.prog 51 #[.agg (jg k ow un se sc n to t1 t2 t3 t4 nw)] w λe w'=>e=.returned (.ae (Qv ow un se sc n to t1 t2 t3 t4 nw u))/\eE w w':=by
 show Calls Tryz.prog 51 #[.agg #[.ae k,.int .u32 ow,.ae un,.ae se,.ae sc,.ae n,.int .u32 to,.int .u32 t1,.int .u32 t2,.int .u64 t3,.int .u64 t4,.ae nw]] w λe w'=>e=.returned (.ae (LA (!decide (ow=0)) (!decide (un=0)) (!decide (se=0)) (!decide (sc=0)) (!decide (n=0)) (!decide (to=0)) (!((t1==0)&&((t2==0)&&((t3==0)&&((t4==0)&&true))))) (!decide (nw=0)) u))/\eE w w'
 go_enter Tryz.func51,Tryz.ntmps51;go_wp2;refine P9 (nt:=58) (TM:=115) (TK:=3) (TE:=4) (TT:=46) (B:=w.heap.size) (n:=12) (cs:=RW k ow un se sc n to t1 t2 t3 t4 nw) (tk:=#[.int .u32 t1,.int .u32 t2,.int .u64 t3,.int .u64 t4]) (zk:=#[.int .u32 0,.int .u32 0,.int .u64 0,.int .u64 0])
  (b0:= !decide (ow=0)) (b1:= !decide (un=0)) (b2:= !decide (se=0)) (b3:= !decide (sc=0)) (b4:= !decide (n=0)) (b5:= !decide (to=0)) (b6:= !((t1==0)&&((t2==0)&&((t3==0)&&((t4==0)&&true))))) (b7:= !decide (nw=0)) (by kernel_rfl)
  (by kernel_rfl) (by kernel_rfl) (by kernel_rfl) (by kernel_rfl) (by kernel_rfl) (by kernel_rfl) (by kernel_rfl) (by kernel_rfl) (by kernel_rfl) (by kernel_rfl) (by kernel_rfl) rfl rfl (by kernel_rfl) (adO t1 t2 t3 t4) (by kernel_rfl) rfl (by decide) rfl Tryz.underlying115 Tryz.underlying3 Tryz.underlying4 ?_ ?_
 ·exact afz w 48 (RW k ow un se sc n to t1 t2 t3 t4 nw) rfl
 intro a' w' σ m r nn hq;obtain⟨ajj,apM,gH,hit,hrel,QW,hnm,Hv,hgm,XQ,RY⟩:=hq;obtain⟨tmps,dfs⟩:=a';simp only at ajj apM gH hit;subst apM;obtain⟨xs,hxs,rfl⟩:=ajU ajj rfl gH hit;obtain⟨x14,x15,x16,x17,x18,x19,x20,x21,x22,x23,x24,x25,x26,x27,x28,x29,x30,x31,x32,x33,x34,x35,x36,x37,x38,x39,x40,rfl⟩:∃x14 x15 x16 x17 x18 x19 x20 x21 x22 x23 x24 x25 x26 x27 x28 x29 x30 x31 x32 x33 x34 x35 x36 x37 x38 x39 x40:Value,xs=[x14,x15,x16,x17,x18,x19,x20,x21,x22,x23,x24,x25,x26,x27,x28,x29,x30,x31,x32,x33,x34,x35,x36,x37,x38,x39,x40]:=by
  match xs,hxs with
  |[x14,x15,x16,x17,x18,x19,x20,x21,x22,x23,x24,x25,x26,x27,x28,x29,x30,x31,x32,x33,x34,x35,x36,x37,x38,x39,x40],_=>exact⟨_,_,_,_,_,_,_,_,_,_,_,_,_,_,_,_,_,_,_,_,_,_,_,_,_,_,_,rfl⟩
 have hqw:=ZE QW;have hbx:w'.cell? ⟨w.heap.size,0,none⟩=some (.ae k):=acu hrel (QW.sub 0 _ rfl) rfl rfl;have aB7:w.heap.size+1<=r:=by simpa using XQ
 generalize S2:(!decide (ow=0))=b0 at RY;generalize CU:(!decide (un=0))=b1 at RY;generalize lF:(!decide (se=0))=b2 at RY;generalize hb3:(!decide (sc=0))=b3 at RY;generalize hb4:(!decide (n=0))=b4 at RY;generalize hb5:(!decide (to=0))=b5 at RY;generalize hb6:(!((t1==0)&&((t2==0)&&((t3==0)&&((t4==0)&&true)))))=b6 at RY;generalize hb7:(!decide (nw=0))=b7 at RY;clear ajj gH hit QW hrel hnm Hv hgm XQ hxs;simp only[List.take,List.drop,oG,jF];go_wp2
 go_loopw [3] (λv wr=>∃(left:Lit->Bool) (vY:Nat),wr.ranges Tryz.prog 3 (plainElem Tryz.prog 4) m r nn (Kv b0 b1 b2 b3 b4 b5 b6 b7) left vY/\eE w wr/\wr.cell? ⟨w.heap.size,0,none⟩=some (.ae k)/\(∀kl,left kl=true->Maps.has (Kv b0 b1 b2 b3 b4 b5 b6 b7) kl=true)/\
  v=.ae (DX (!left (.ae 1)&&b0) (!left (.ae 2)&&b1) (!left (.ae 4)&&b2) (!left (.ae 8)&&b3) (!left (.ae 16)&&b4) (!left (.ae 32)&&b5) (!left (.ae 64)&&b6) (!left (.ae 128)&&b7)))
  (λ_ wr=>wr.rangeLeft m r)
 case atStart=>exact⟨_,_,RY,hqw,hbx,λ_ h=>h,rfl⟩
 case round=>
  obtain⟨left,vY,aar,hqr,hbr,apU,rfl⟩:=hrel;have hur:=hqr.cell hu
  go_wp2_with (first
   |(at_next;refine Fv rfl _ rfl Tryz.underlying3 Tryz.underlying4 rfl aar ?_ ?_)
   |go_in)
  ·intro Ss;simp only[Ss,Bool.not_false,il];go_wp2;all_goals go_ret
   all_goals refine⟨?_,hqr⟩
   all_goals(subst S2;subst CU;subst lF;subst hb3;subst hb4;subst hb5;subst hb6;subst hb7)
   ·rename_i fp;exact gO (λz=>Ending.returned (Value.int .i64 z)) (ap (by simpa using fp)).symm
   ·rename_i fp;exact gO (λz=>Ending.returned (Value.int .i64 z)) (an (by simpa using fp)).symm
  ·rintro⟨x,c,w1,VD,hl,sI,acW,lA,aoO,avq,hen⟩;have h8:=acy (apU _ hl) sI;have t7:=adS hl h8;have hq1:eE w w1:=hqr.other (by omega) aoO avq (BV aar) (BV acW);have CU:w1.cell? ⟨w.heap.size,0,none⟩=some (.ae k):=by rw[World.cell?_of_block (aoO.block w.heap.size (by have:=Xw aar;omega) (λe=>by injection e with e;omega))];exact hbr
   have aio:∀kl,(λz:Lit=>left z&& !z.sameKey (.ae x)) kl=true->Maps.has (Kv b0 b1 b2 b3 b4 b5 b6 b7) kl=true:=λkl h=>apU kl (by simp only[bA]at h;exact h.1)
   cases c
   ·go_wp2;exact⟨⟨_,VD,acW,hq1,CU,aio,gO (Value.int .i64) (t7.1 rfl)⟩,by rw[acW.left_eq,aar.left_eq];exact lA⟩
   ·go_wp2;exact⟨⟨_,VD,acW,hq1,CU,aio,by have h2:=t7.2 rfl;simp only[Bool.not_and,Bool.not_not]at h2|-;try first|exact gO _ h2|exact gO _ h2.symm⟩,by rw[acW.left_eq,aar.left_eq];exact lA⟩
set_option maxRecDepth 100000 in
def Nk(k ow un se sc n to t1 t2 t3 t4 nw:Int)(w:World)(hk:k<1\/12<k):
 Calls Tryz.prog 51 #[.agg (jg k ow un se sc n to t1 t2 t3 t4 nw)] w λe w'=>e=.returned (.ae 2)/\eE w w':=by
 show Calls Tryz.prog 51 #[.agg #[.ae k,.int .u32 ow,.ae un,.ae se,.ae sc,.ae n,.int .u32 to,.int .u32 t1,.int .u32 t2,.int .u64 t3,.int .u64 t4,.ae nw]] w λe w'=>e=.returned (.ae 2)/\eE w w'
 rcases hk with hk|hk
 ·go_enter Tryz.func51,Tryz.ntmps51;go_wp2;go_ret;exact⟨rfl,eE.box _ _ _⟩
 ·have hk1:¬k<1:=by omega
  go_enter Tryz.func51,Tryz.ntmps51;go_wp2;go_ret;exact⟨rfl,eE.box _ _ _⟩
def abD:cl Tryz.prog ai.ng (chk 51):=
 ael (by decide) Tryz.func51 (by kernel_rfl) rfl Rm Nk
end Go.Proofs.YtmaoneengdafhaaGreatDoor
