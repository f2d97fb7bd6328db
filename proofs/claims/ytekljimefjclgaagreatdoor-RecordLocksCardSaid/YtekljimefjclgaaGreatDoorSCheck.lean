/- Whether an operation has just the fields of its kind: what the function answers, in whatever order the map's entries are laid and come. -/
import Derived.Test.YtekljimefjclgaaGreatDoorSBaseW
import Derived.WalkKit
set_option linter.unusedVariables false
set_option linter.unusedSimpArgs false
set_option linter.unusedSectionVars false
set_option linter.defProp false
namespace Go.Proofs.YtekljimefjclgaaGreatDoor
open Go Go.Eng Go.RowKit Go.Maps
def Ew(k ow un se sc n to t1 t2 t3 t4 nw:Int):List Value:=[.af k,.int .u32 ow,.af un,.af se,.af sc,.af n,.int .u32 to,.int .u32 t1,.int .u32 t2,.int .u64 t3,.int .u64 t4,.af nw]
noncomputable def qc(i:Nat):Field:=match(Tryz.prog.fieldsOf 39).toList[i]? with
 |some f=>f
 |none=>⟨"",0,0,false, "", "",0⟩
def NJ(a b c d:Int)(w:World):(do eqGuard .neq 39 (.tmp 34) (.tmp 35) (.agg #[.int .u32 a,.int .u32 b,.int .u64 c,.int .u64 d]) (.agg #[.int .u32 0,.int .u32 0,.int .u64 0,.int .u64 0]);binOp .neq 39 (.agg #[.int .u32 a,.int .u32 b,.int .u64 c,.int .u64 d]) (.agg #[.int .u32 0,.int .u32 0,.int .u64 0,.int .u64 0]):Sem Value).run Tryz.prog w=
 .ok (.bool (!((a==0)&&((b==0)&&((c==0)&&((d==0)&&true)))))) w:=
 Nx (P:=Tryz.prog) (t:=39) (x:=.tmp 34) (y:=.tmp 35) (f0:=qc 0) (f1:=qc 1) (f2:=qc 2) (f3:=qc 3) (k0:=.u32) (k1:=.u32) (k2:=.u64) (k3:=.u64) (a:=a) (b:=b) (c:=c) (d:=d) (by kernel_rfl) (by kernel_rfl) (by kernel_rfl) (by kernel_rfl)
  (by decide+kernel) (by decide+kernel) (by decide+kernel) (by decide+kernel) (by kernel_rfl) (by kernel_rfl) (by kernel_rfl) (by kernel_rfl) (by kernel_rfl) (by kernel_rfl) (by kernel_rfl) (by kernel_rfl) (by kernel_rfl) (by kernel_rfl) (by kernel_rfl) (by kernel_rfl) w
set_option maxRecDepth 100000 in
def DW(k ow un se sc n to t1 t2 t3 t4 nw u:Int)(w:World)(S2:¬k<1)(Ei:¬12<k)(hu:w.cell? ⟨0,k.toNat,none⟩=some (.af u)):
 Calls Tryz.prog 75 #[.agg (gG k ow un se sc n to t1 t2 t3 t4 nw)] w λe w'=>e=.returned (.af (HW ow un se sc n to t1 t2 t3 t4 nw u))/\cW w w':=by
 show Calls Tryz.prog 75 #[.agg #[.af k,.int .u32 ow,.af un,.af se,.af sc,.af n,.int .u32 to,.int .u32 t1,.int .u32 t2,.int .u64 t3,.int .u64 t4,.af nw]] w λe w'=>e=.returned (.af (WF (!decide (ow=0)) (!decide (un=0)) (!decide (se=0)) (!decide (sc=0)) (!decide (n=0)) (!decide (to=0)) (!((t1==0)&&((t2==0)&&((t3==0)&&((t4==0)&&true))))) (!decide (nw=0)) u))/\cW w w'
 go_enter Tryz.func75,Tryz.ntmps75;go_wp2;refine C1 (nt:=58) (TM:=179) (TK:=3) (TE:=4) (TT:=39) (B:=w.heap.size) (n:=12) (cs:=Ew k ow un se sc n to t1 t2 t3 t4 nw) (tk:=#[.int .u32 t1,.int .u32 t2,.int .u64 t3,.int .u64 t4]) (zk:=#[.int .u32 0,.int .u32 0,.int .u64 0,.int .u64 0])
  (b0:= !decide (ow=0)) (b1:= !decide (un=0)) (b2:= !decide (se=0)) (b3:= !decide (sc=0)) (b4:= !decide (n=0)) (b5:= !decide (to=0)) (b6:= !((t1==0)&&((t2==0)&&((t3==0)&&((t4==0)&&true))))) (b7:= !decide (nw=0)) (by kernel_rfl)
  (by kernel_rfl) (by kernel_rfl) (by kernel_rfl) (by kernel_rfl) (by kernel_rfl) (by kernel_rfl) (by kernel_rfl) (by kernel_rfl) (by kernel_rfl) (by kernel_rfl) (by kernel_rfl) rfl rfl (by kernel_rfl) (NJ t1 t2 t3 t4) (by kernel_rfl) rfl (by decide) rfl Tryz.underlying179 Tryz.underlying3 Tryz.underlying4 ?_ ?_
 ·exact Pb w 41 (Ew k ow un se sc n to t1 t2 t3 t4 nw) rfl
 intro a' w' σ m r nn hq;obtain⟨Uk,Yt,dH,Pf,hrel,Er,hnm,vB,hgm,KF,EM⟩:=hq;obtain⟨tmps,OB⟩:=a';simp only at Uk Yt dH Pf;subst Yt;obtain⟨xs,Tg,rfl⟩:=Vy Uk rfl dH Pf;obtain⟨x14,x15,x16,x17,x18,x19,x20,x21,x22,x23,x24,x25,x26,x27,x28,x29,x30,x31,x32,x33,x34,x35,x36,x37,x38,x39,x40,rfl⟩:∃x14 x15 x16 x17 x18 x19 x20 x21 x22 x23 x24 x25 x26 x27 x28 x29 x30 x31 x32 x33 x34 x35 x36 x37 x38 x39 x40:Value,xs=[x14,x15,x16,x17,x18,x19,x20,x21,x22,x23,x24,x25,x26,x27,x28,x29,x30,x31,x32,x33,x34,x35,x36,x37,x38,x39,x40]:=by
  match xs,Tg with
  |[x14,x15,x16,x17,x18,x19,x20,x21,x22,x23,x24,x25,x26,x27,x28,x29,x30,x31,x32,x33,x34,x35,x36,x37,x38,x39,x40],_=>exact⟨_,_,_,_,_,_,_,_,_,_,_,_,_,_,_,_,_,_,_,_,_,_,_,_,_,_,_,rfl⟩
 have hqw:=IN Er;have hbx:w'.cell? ⟨w.heap.size,0,none⟩=some (.af k):=NC hrel (Er.sub 0 _ rfl) rfl rfl;have ah7:w.heap.size+1<=r:=by simpa using KF
 generalize hb0:(!decide (ow=0))=b0 at EM;generalize KP:(!decide (un=0))=b1 at EM;generalize gW:(!decide (se=0))=b2 at EM;generalize BA:(!decide (sc=0))=b3 at EM;generalize hb4:(!decide (n=0))=b4 at EM;generalize hb5:(!decide (to=0))=b5 at EM;generalize hb6:(!((t1==0)&&((t2==0)&&((t3==0)&&((t4==0)&&true)))))=b6 at EM;generalize hb7:(!decide (nw=0))=b7 at EM;clear Uk dH Pf Er hrel hnm vB hgm KF Tg;simp only[List.take,List.drop,rA,mB];go_wp2
 go_loopw [3] (λv wr=>∃(left:Lit->Bool) (ub:Nat),wr.ranges Tryz.prog 3 (plainElem Tryz.prog 4) m r nn (yn b0 b1 b2 b3 b4 b5 b6 b7) left ub/\cW w wr/\wr.cell? ⟨w.heap.size,0,none⟩=some (.af k)/\(∀kl,left kl=true->Maps.has (yn b0 b1 b2 b3 b4 b5 b6 b7) kl=true)/\
  v=.af (rN (!left (.af 1)&&b0) (!left (.af 2)&&b1) (!left (.af 4)&&b2) (!left (.af 8)&&b3) (!left (.af 16)&&b4) (!left (.af 32)&&b5) (!left (.af 64)&&b6) (!left (.af 128)&&b7)))
  (λ_ wr=>wr.rangeLeft m r)
 case atStart=>exact⟨_,_,EM,hqw,hbx,λ_ h=>h,rfl⟩
 case round=>
  obtain⟨left,ub,NL,hqr,hbr,abb,rfl⟩:=hrel;have hur:=hqr.cell hu
  go_wp2_with (first
   |(at_next;refine ug rfl _ rfl Tryz.underlying3 Tryz.underlying4 rfl NL ?_ ?_)
   |go_in)
  ·intro CE;simp only[CE,Bool.not_false,nW];go_wp2;all_goals go_ret
   all_goals refine⟨?_,hqr⟩
   all_goals(subst hb0;subst KP;subst gW;subst BA;subst hb4;subst hb5;subst hb6;subst hb7)
   ·rename_i dQ;exact cg (λz=>Ending.returned (Value.int .i64 z)) (ay (by simpa using dQ)).symm
   ·rename_i dQ;exact cg (λz=>Ending.returned (Value.int .i64 z)) (ax (by simpa using dQ)).symm
  ·rintro⟨x,c,w1,Hp,hl,ko,MV,fy,Xc,aei,V5⟩;have h8:=Lx (abb _ hl) ko;have my:=Ns hl h8;have hq1:cW w w1:=hqr.other (by omega) Xc aei (qY NL) (qY MV);have KP:w1.cell? ⟨w.heap.size,0,none⟩=some (.af k):=by rw[World.cell?_of_block (Xc.block w.heap.size (by have:=JW NL;omega) (λe=>by injection e with e;omega))];exact hbr
   have Rm:∀kl,(λz:Lit=>left z&& !z.sameKey (.af x)) kl=true->Maps.has (yn b0 b1 b2 b3 b4 b5 b6 b7) kl=true:=λkl h=>abb kl (by simp only[bm]at h;exact h.1)
   cases c
   ·go_wp2;exact⟨⟨_,Hp,MV,hq1,KP,Rm,cg (Value.int .i64) (my.1 rfl)⟩,by rw[MV.left_eq,NL.left_eq];exact fy⟩
   ·go_wp2;exact⟨⟨_,Hp,MV,hq1,KP,Rm,by have h2:=my.2 rfl;simp only[Bool.not_and,Bool.not_not]at h2|-;try first|exact cg _ h2|exact cg _ h2.symm⟩,by rw[MV.left_eq,NL.left_eq];exact fy⟩
set_option maxRecDepth 100000 in
def As(k ow un se sc n to t1 t2 t3 t4 nw:Int)(w:World)(hk:k<1\/12<k):
 Calls Tryz.prog 75 #[.agg (gG k ow un se sc n to t1 t2 t3 t4 nw)] w λe w'=>e=.returned (.af 2)/\cW w w':=by
 show Calls Tryz.prog 75 #[.agg #[.af k,.int .u32 ow,.af un,.af se,.af sc,.af n,.int .u32 to,.int .u32 t1,.int .u32 t2,.int .u64 t3,.int .u64 t4,.af nw]] w λe w'=>e=.returned (.af 2)/\cW w w'
 rcases hk with hk|hk
 ·go_enter Tryz.func75,Tryz.ntmps75;go_wp2;go_ret;exact⟨rfl,cW.box _ _ _⟩
 ·have S2:¬k<1:=by omega
  go_enter Tryz.func75,Tryz.ntmps75;go_wp2;go_ret;exact⟨rfl,cW.box _ _ _⟩
def LK:bB Tryz.prog aj.ng (Rk 75):=
 LX (by decide) Tryz.func75 (by kernel_rfl) rfl DW As
end Go.Proofs.YtekljimefjclgaaGreatDoor
