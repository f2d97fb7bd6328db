/- Whether an operation has just the fields of its kind: what the function answers, in whatever order the map's entries are laid and come. -/
import Derived.Test.YtmaoneengdafhaaGreatDoorSBaseW
import Derived.WalkKit
set_option linter.unusedVariables false
set_option linter.defProp false
namespace Go.Proofs.YtmaoneengdafhaaGreatDoor
open Go Go.Eng Go.RowKit Go.Maps
def SD(k ow un se sc n to t1 t2 t3 t4 nw:Int):List Value:=[.ae k,.int .u32 ow,.ae un,.ae se,.ae sc,.ae n,.int .u32 to,.int .u32 t1,.int .u32 t2,.int .u64 t3,.int .u64 t4,.ae nw]
noncomputable def AQ(i:Nat):Field:=match(Tryz.prog.fieldsOf 46).toList[i]? with
 |some f=>f
 |none=>⟨"",0,0,false, "", "",0⟩
def adB(a b c d:Int)(w:World):(do eqGuard .neq 46 (.tmp 34) (.tmp 35) (.agg #[.int .u32 a,.int .u32 b,.int .u64 c,.int .u64 d]) (.agg #[.int .u32 0,.int .u32 0,.int .u64 0,.int .u64 0]);binOp .neq 46 (.agg #[.int .u32 a,.int .u32 b,.int .u64 c,.int .u64 d]) (.agg #[.int .u32 0,.int .u32 0,.int .u64 0,.int .u64 0]):Sem Value).run Tryz.prog w=
 .ok (.bool (!((a==0)&&((b==0)&&((c==0)&&((d==0)&&true)))))) w:=
 aew (P:=Tryz.prog) (t:=46) (x:=.tmp 34) (y:=.tmp 35) (f0:=AQ 0) (f1:=AQ 1) (f2:=AQ 2) (f3:=AQ 3) (k0:=.u32) (k1:=.u32) (k2:=.u64) (k3:=.u64) (a:=a) (b:=b) (c:=c) (d:=d) (by kernel_rfl) (by kernel_rfl) (by kernel_rfl) (by kernel_rfl)
  (by decide+kernel) (by decide+kernel) (by decide+kernel) (by decide+kernel) (by kernel_rfl) (by kernel_rfl) (by kernel_rfl) (by kernel_rfl) (by kernel_rfl) (by kernel_rfl) (by kernel_rfl) (by kernel_rfl) (by kernel_rfl) (by kernel_rfl) (by kernel_rfl) (by kernel_rfl) w
set_option maxRecDepth 100000 in
def SB(k ow un se sc n to t1 t2 t3 t4 nw u:Int)(w:World)(hk1:¬k<1)(WS:¬12<k)(hu:w.cell? ⟨0,k.toNat,none⟩=some (.ae u)):
 Calls Tryz.prog 51 #[.agg (iX k ow un se sc n to t1 t2 t3 t4 nw)] w λe w'=>e=.returned (.ae (Qs ow un se sc n to t1 t2 t3 t4 nw u))/\eG w w':=by
 show Calls Tryz.prog 51 #[.agg #[.ae k,.int .u32 ow,.ae un,.ae se,.ae sc,.ae n,.int .u32 to,.int .u32 t1,.int .u32 t2,.int .u64 t3,.int .u64 t4,.ae nw]] w λe w'=>e=.returned (.ae (Mb (!decide (ow=0)) (!decide (un=0)) (!decide (se=0)) (!decide (sc=0)) (!decide (n=0)) (!decide (to=0)) (!((t1==0)&&((t2==0)&&((t3==0)&&((t4==0)&&true))))) (!decide (nw=0)) u))/\eG w w'
 go_enter Tryz.func51,Tryz.ntmps51;go_wp2;refine QC (nt:=58) (TM:=115) (TK:=3) (TE:=4) (TT:=46) (B:=w.heap.size) (n:=12) (cs:=SD k ow un se sc n to t1 t2 t3 t4 nw) (tk:=#[.int .u32 t1,.int .u32 t2,.int .u64 t3,.int .u64 t4]) (zk:=#[.int .u32 0,.int .u32 0,.int .u64 0,.int .u64 0])
  (b0:= !decide (ow=0)) (b1:= !decide (un=0)) (b2:= !decide (se=0)) (b3:= !decide (sc=0)) (b4:= !decide (n=0)) (b5:= !decide (to=0)) (b6:= !((t1==0)&&((t2==0)&&((t3==0)&&((t4==0)&&true))))) (b7:= !decide (nw=0)) (by kernel_rfl)
  (by kernel_rfl) (by kernel_rfl) (by kernel_rfl) (by kernel_rfl) (by kernel_rfl) (by kernel_rfl) (by kernel_rfl) (by kernel_rfl) (by kernel_rfl) (by kernel_rfl) (by kernel_rfl) rfl rfl (by kernel_rfl) (adB t1 t2 t3 t4) (by kernel_rfl) rfl (by decide) rfl Tryz.underlying115 Tryz.underlying3 Tryz.underlying4 ?_ ?_
 ·exact ahh w 48 (SD k ow un se sc n to t1 t2 t3 t4 nw) rfl
 intro a' w' σ m r nn hq;obtain⟨amr,aol,gE,hit,hrel,Tj,hnm,Hv,hgm,YH,S8⟩:=hq;obtain⟨tmps,dfs⟩:=a';simp only at amr aol gE hit;subst aol;obtain⟨xs,hxs,rfl⟩:=ajZ amr rfl gE hit;obtain⟨x14,x15,x16,x17,x18,x19,x20,x21,x22,x23,x24,x25,x26,x27,x28,x29,x30,x31,x32,x33,x34,x35,x36,x37,x38,x39,x40,rfl⟩:∃x14 x15 x16 x17 x18 x19 x20 x21 x22 x23 x24 x25 x26 x27 x28 x29 x30 x31 x32 x33 x34 x35 x36 x37 x38 x39 x40:Value,xs=[x14,x15,x16,x17,x18,x19,x20,x21,x22,x23,x24,x25,x26,x27,x28,x29,x30,x31,x32,x33,x34,x35,x36,x37,x38,x39,x40]:=by
  match xs,hxs with
  |[x14,x15,x16,x17,x18,x19,x20,x21,x22,x23,x24,x25,x26,x27,x28,x29,x30,x31,x32,x33,x34,x35,x36,x37,x38,x39,x40],_=>exact⟨_,_,_,_,_,_,_,_,_,_,_,_,_,_,_,_,_,_,_,_,_,_,_,_,_,_,_,rfl⟩
 have hqw:=YT Tj;have hbx:w'.cell? ⟨w.heap.size,0,none⟩=some (.ae k):=abk hrel (Tj.sub 0 _ rfl) rfl rfl;have ayu:w.heap.size+1<=r:=by simpa using YH
 generalize Tu:(!decide (ow=0))=b0 at S8;generalize As:(!decide (un=0))=b1 at S8;generalize lA:(!decide (se=0))=b2 at S8;generalize hb3:(!decide (sc=0))=b3 at S8;generalize hb4:(!decide (n=0))=b4 at S8;generalize hb5:(!decide (to=0))=b5 at S8;generalize hb6:(!((t1==0)&&((t2==0)&&((t3==0)&&((t4==0)&&true)))))=b6 at S8;generalize hb7:(!decide (nw=0))=b7 at S8;clear amr gE hit Tj hrel hnm Hv hgm YH hxs;simp only[List.take,List.drop,pb,jG];go_wp2
 go_loopw [3] (λv wr=>∃(left:Lit->Bool) (CA:Nat),wr.ranges Tryz.prog 3 (plainElem Tryz.prog 4) m r nn (Kv b0 b1 b2 b3 b4 b5 b6 b7) left CA/\eG w wr/\wr.cell? ⟨w.heap.size,0,none⟩=some (.ae k)/\(∀kl,left kl=true->Maps.has (Kv b0 b1 b2 b3 b4 b5 b6 b7) kl=true)/\
  v=.ae (EC (!left (.ae 1)&&b0) (!left (.ae 2)&&b1) (!left (.ae 4)&&b2) (!left (.ae 8)&&b3) (!left (.ae 16)&&b4) (!left (.ae 32)&&b5) (!left (.ae 64)&&b6) (!left (.ae 128)&&b7)))
  (λ_ wr=>wr.rangeLeft m r)
 case atStart=>exact⟨_,_,S8,hqw,hbx,λ_ h=>h,rfl⟩
 case round=>
  obtain⟨left,CA,aav,hqr,hbr,anL,rfl⟩:=hrel;have hur:=hqr.cell hu
  go_wp2_with (first
   |(at_next;refine Gl rfl _ rfl Tryz.underlying3 Tryz.underlying4 rfl aav ?_ ?_)
   |go_in)
  ·intro SE;simp only[SE,Bool.not_false,gK];go_wp2;all_goals go_ret
   all_goals refine⟨?_,hqr⟩
   all_goals(subst Tu;subst As;subst lA;subst hb3;subst hb4;subst hb5;subst hb6;subst hb7)
   ·rename_i fe;exact ii (λz=>Ending.returned (Value.int .i64 z)) (aq (by simpa using fe)).symm
   ·rename_i fe;exact ii (λz=>Ending.returned (Value.int .i64 z)) (an (by simpa using fe)).symm
  ·rintro⟨x,c,w1,UZ,hl,vL,abt,mC,aq3,ate,hen⟩;have h8:=ac8 (anL _ hl) vL;have ug:=adZ hl h8;have hq1:eG w w1:=hqr.other (by omega) aq3 ate (B2 aav) (B2 abt);have As:w1.cell? ⟨w.heap.size,0,none⟩=some (.ae k):=by rw[World.cell?_of_block (aq3.block w.heap.size (by have:=X6 aav;omega) (λe=>by injection e with e;omega))];exact hbr
   have ai5:∀kl,(λz:Lit=>left z&& !z.sameKey (.ae x)) kl=true->Maps.has (Kv b0 b1 b2 b3 b4 b5 b6 b7) kl=true:=λkl h=>anL kl (by simp only[bA]at h;exact h.1)
   cases c
   ·go_wp2;exact⟨⟨_,UZ,abt,hq1,As,ai5,ii (Value.int .i64) (ug.1 rfl)⟩,by rw[abt.left_eq,aav.left_eq];exact mC⟩
   ·go_wp2;exact⟨⟨_,UZ,abt,hq1,As,ai5,by have h2:=ug.2 rfl;simp only[Bool.not_and,Bool.not_not]at h2|-;try first|exact ii _ h2|exact ii _ h2.symm⟩,by rw[abt.left_eq,aav.left_eq];exact mC⟩
set_option maxRecDepth 100000 in
def MQ(k ow un se sc n to t1 t2 t3 t4 nw:Int)(w:World)(hk:k<1\/12<k):
 Calls Tryz.prog 51 #[.agg (iX k ow un se sc n to t1 t2 t3 t4 nw)] w λe w'=>e=.returned (.ae 2)/\eG w w':=by
 show Calls Tryz.prog 51 #[.agg #[.ae k,.int .u32 ow,.ae un,.ae se,.ae sc,.ae n,.int .u32 to,.int .u32 t1,.int .u32 t2,.int .u64 t3,.int .u64 t4,.ae nw]] w λe w'=>e=.returned (.ae 2)/\eG w w'
 rcases hk with hk|hk
 ·go_enter Tryz.func51,Tryz.ntmps51;go_wp2;go_ret;exact⟨rfl,eG.box _ _ _⟩
 ·have hk1:¬k<1:=by omega
  go_enter Tryz.func51,Tryz.ntmps51;go_wp2;go_ret;exact⟨rfl,eG.box _ _ _⟩
def adw:cl Tryz.prog ai.ng (chk 51):=
 adj (by decide) Tryz.func51 (by kernel_rfl) rfl SB MQ
end Go.Proofs.YtmaoneengdafhaaGreatDoor
