/- Whether an operation has just the fields of its kind: what the function answers, in whatever order the map's entries are laid and come. -/
import Derived.Test.YtekljimefjclgaaGreatDoorSBaseW
import Derived.WalkKit
set_option linter.unusedVariables false
set_option linter.unusedSimpArgs false
set_option linter.unusedSectionVars false
set_option linter.defProp false
namespace Go.Proofs.YtekljimefjclgaaGreatDoor
open Go Go.Eng Go.RowKit Go.Maps
def Ke(k ow un se sc n to t1 t2 t3 t4 nw:Int):List Value:=[.af k,.int .u32 ow,.af un,.af se,.af sc,.af n,.int .u32 to,.int .u32 t1,.int .u32 t2,.int .u64 t3,.int .u64 t4,.af nw]
noncomputable def vt(i:Nat):Field:=match(Tryz.prog.fieldsOf 39).toList[i]? with
 |some f=>f
 |none=>⟨"",0,0,false, "", "",0⟩
def Vb(a b c d:Int)(w:World):(do eqGuard .neq 39 (.tmp 34) (.tmp 35) (.agg #[.int .u32 a,.int .u32 b,.int .u64 c,.int .u64 d]) (.agg #[.int .u32 0,.int .u32 0,.int .u64 0,.int .u64 0]);binOp .neq 39 (.agg #[.int .u32 a,.int .u32 b,.int .u64 c,.int .u64 d]) (.agg #[.int .u32 0,.int .u32 0,.int .u64 0,.int .u64 0]):Sem Value).run Tryz.prog w=
 .ok (.bool (!((a==0)&&((b==0)&&((c==0)&&((d==0)&&true)))))) w:=
 UQ (P:=Tryz.prog) (t:=39) (x:=.tmp 34) (y:=.tmp 35) (f0:=vt 0) (f1:=vt 1) (f2:=vt 2) (f3:=vt 3) (k0:=.u32) (k1:=.u32) (k2:=.u64) (k3:=.u64) (a:=a) (b:=b) (c:=c) (d:=d) (by kernel_rfl) (by kernel_rfl) (by kernel_rfl) (by kernel_rfl)
  (by decide+kernel) (by decide+kernel) (by decide+kernel) (by decide+kernel) (by kernel_rfl) (by kernel_rfl) (by kernel_rfl) (by kernel_rfl) (by kernel_rfl) (by kernel_rfl) (by kernel_rfl) (by kernel_rfl) (by kernel_rfl) (by kernel_rfl) (by kernel_rfl) (by kernel_rfl) w
set_option maxRecDepth 100000 in
def Io(k ow un se sc n to t1 t2 t3 t4 nw u:Int)(w:World)(hk1:¬k<1)(HB:¬12<k)(hu:w.cell? ⟨0,k.toNat,none⟩=some (.af u)):
 Calls Tryz.prog 75 #[.agg (fy k ow un se sc n to t1 t2 t3 t4 nw)] w λe w'=>e=.returned (.af (JB ow un se sc n to t1 t2 t3 t4 nw u))/\ej w w':=by
 show Calls Tryz.prog 75 #[.agg #[.af k,.int .u32 ow,.af un,.af se,.af sc,.af n,.int .u32 to,.int .u32 t1,.int .u32 t2,.int .u64 t3,.int .u64 t4,.af nw]] w λe w'=>e=.returned (.af (Fg (!decide (ow=0)) (!decide (un=0)) (!decide (se=0)) (!decide (sc=0)) (!decide (n=0)) (!decide (to=0)) (!((t1==0)&&((t2==0)&&((t3==0)&&((t4==0)&&true))))) (!decide (nw=0)) u))/\ej w w'
 go_enter Tryz.func75,Tryz.ntmps75;go_wp2;refine JX (nt:=58) (TM:=179) (TK:=3) (TE:=4) (TT:=39) (B:=w.heap.size) (n:=12) (cs:=Ke k ow un se sc n to t1 t2 t3 t4 nw) (tk:=#[.int .u32 t1,.int .u32 t2,.int .u64 t3,.int .u64 t4]) (zk:=#[.int .u32 0,.int .u32 0,.int .u64 0,.int .u64 0])
  (b0:= !decide (ow=0)) (b1:= !decide (un=0)) (b2:= !decide (se=0)) (b3:= !decide (sc=0)) (b4:= !decide (n=0)) (b5:= !decide (to=0)) (b6:= !((t1==0)&&((t2==0)&&((t3==0)&&((t4==0)&&true))))) (b7:= !decide (nw=0)) (by kernel_rfl)
  (by kernel_rfl) (by kernel_rfl) (by kernel_rfl) (by kernel_rfl) (by kernel_rfl) (by kernel_rfl) (by kernel_rfl) (by kernel_rfl) (by kernel_rfl) (by kernel_rfl) (by kernel_rfl) rfl rfl (by kernel_rfl) (Vb t1 t2 t3 t4) (by kernel_rfl) rfl (by decide) rfl Tryz.underlying179 Tryz.underlying3 Tryz.underlying4 ?_ ?_
 ·exact Xs w 41 (Ke k ow un se sc n to t1 t2 t3 t4 nw) rfl
 intro a' w' σ m r nn hq;obtain⟨abK,agB,fd,XA,hrel,Kw,hnm,Ai,hgm,Ro,Il⟩:=hq;obtain⟨tmps,Xe⟩:=a';simp only at abK agB fd XA;subst agB;obtain⟨xs,hxs,rfl⟩:=adM abK rfl fd XA;obtain⟨x14,x15,x16,x17,x18,x19,x20,x21,x22,x23,x24,x25,x26,x27,x28,x29,x30,x31,x32,x33,x34,x35,x36,x37,x38,x39,x40,rfl⟩:∃x14 x15 x16 x17 x18 x19 x20 x21 x22 x23 x24 x25 x26 x27 x28 x29 x30 x31 x32 x33 x34 x35 x36 x37 x38 x39 x40:Value,xs=[x14,x15,x16,x17,x18,x19,x20,x21,x22,x23,x24,x25,x26,x27,x28,x29,x30,x31,x32,x33,x34,x35,x36,x37,x38,x39,x40]:=by
  match xs,hxs with
  |[x14,x15,x16,x17,x18,x19,x20,x21,x22,x23,x24,x25,x26,x27,x28,x29,x30,x31,x32,x33,x34,x35,x36,x37,x38,x39,x40],_=>exact⟨_,_,_,_,_,_,_,_,_,_,_,_,_,_,_,_,_,_,_,_,_,_,_,_,_,_,_,rfl⟩
 have hqw:=P5 Kw;have hbx:w'.cell? ⟨w.heap.size,0,none⟩=some (.af k):=VP hrel (Kw.sub 0 _ rfl) rfl rfl;have arV:w.heap.size+1<=r:=by simpa using Ro
 generalize hb0:(!decide (ow=0))=b0 at Il;generalize MH:(!decide (un=0))=b1 at Il;generalize iW:(!decide (se=0))=b2 at Il;generalize EU:(!decide (sc=0))=b3 at Il;generalize hb4:(!decide (n=0))=b4 at Il;generalize hb5:(!decide (to=0))=b5 at Il;generalize hb6:(!((t1==0)&&((t2==0)&&((t3==0)&&((t4==0)&&true)))))=b6 at Il;generalize hb7:(!decide (nw=0))=b7 at Il;clear abK fd XA Kw hrel hnm Ai hgm Ro hxs;simp only[List.take,List.drop,qj,kg];go_wp2
 go_loopw [3] (λv wr=>∃(left:Lit->Bool) (yJ:Nat),wr.ranges Tryz.prog 3 (plainElem Tryz.prog 4) m r nn (Dw b0 b1 b2 b3 b4 b5 b6 b7) left yJ/\ej w wr/\wr.cell? ⟨w.heap.size,0,none⟩=some (.af k)/\(∀kl,left kl=true->Maps.has (Dw b0 b1 b2 b3 b4 b5 b6 b7) kl=true)/\
  v=.af (vD (!left (.af 1)&&b0) (!left (.af 2)&&b1) (!left (.af 4)&&b2) (!left (.af 8)&&b3) (!left (.af 16)&&b4) (!left (.af 32)&&b5) (!left (.af 64)&&b6) (!left (.af 128)&&b7)))
  (λ_ wr=>wr.rangeLeft m r)
 case atStart=>exact⟨_,_,Il,hqw,hbx,λ_ h=>h,rfl⟩
 case round=>
  obtain⟨left,yJ,VA,hqr,hbr,aiX,rfl⟩:=hrel;have hur:=hqr.cell hu
  go_wp2_with (first
   |(at_next;refine zI rfl _ rfl Tryz.underlying3 Tryz.underlying4 rfl VA ?_ ?_)
   |go_in)
  ·intro Ie;simp only[Ie,Bool.not_false,jK];go_wp2;all_goals go_ret
   all_goals refine⟨?_,hqr⟩
   all_goals(subst hb0;subst MH;subst iW;subst EU;subst hb4;subst hb5;subst hb6;subst hb7)
   ·rename_i fk;exact cR (λz=>Ending.returned (Value.int .i64 z)) (ay (by simpa using fk)).symm
   ·rename_i fk;exact cR (λz=>Ending.returned (Value.int .i64 z)) (ax (by simpa using fk)).symm
  ·rintro⟨x,c,w1,Nk,hl,mE,SV,gZ,afl,akS,hen⟩;have h8:=Wb (aiX _ hl) mE;have nS:=Vh hl h8;have hq1:ej w w1:=hqr.other (by omega) afl akS (vS VA) (vS SV);have MH:w1.cell? ⟨w.heap.size,0,none⟩=some (.af k):=by rw[World.cell?_of_block (afl.block w.heap.size (by have:=PZ VA;omega) (λe=>by injection e with e;omega))];exact hbr
   have aaz:∀kl,(λz:Lit=>left z&& !z.sameKey (.af x)) kl=true->Maps.has (Dw b0 b1 b2 b3 b4 b5 b6 b7) kl=true:=λkl h=>aiX kl (by simp only[bK]at h;exact h.1)
   cases c
   ·go_wp2;exact⟨⟨_,Nk,SV,hq1,MH,aaz,cR (Value.int .i64) (nS.1 rfl)⟩,by rw[SV.left_eq,VA.left_eq];exact gZ⟩
   ·go_wp2;exact⟨⟨_,Nk,SV,hq1,MH,aaz,by have h2:=nS.2 rfl;simp only[Bool.not_and,Bool.not_not]at h2|-;try first|exact cR _ h2|exact cR _ h2.symm⟩,by rw[SV.left_eq,VA.left_eq];exact gZ⟩
set_option maxRecDepth 100000 in
def Fo(k ow un se sc n to t1 t2 t3 t4 nw:Int)(w:World)(hk:k<1\/12<k):
 Calls Tryz.prog 75 #[.agg (fy k ow un se sc n to t1 t2 t3 t4 nw)] w λe w'=>e=.returned (.af 2)/\ej w w':=by
 show Calls Tryz.prog 75 #[.agg #[.af k,.int .u32 ow,.af un,.af se,.af sc,.af n,.int .u32 to,.int .u32 t1,.int .u32 t2,.int .u64 t3,.int .u64 t4,.af nw]] w λe w'=>e=.returned (.af 2)/\ej w w'
 rcases hk with hk|hk
 ·go_enter Tryz.func75,Tryz.ntmps75;go_wp2;go_ret;exact⟨rfl,ej.box _ _ _⟩
 ·have hk1:¬k<1:=by omega
  go_enter Tryz.func75,Tryz.ntmps75;go_wp2;go_ret;exact⟨rfl,ej.box _ _ _⟩
def TP:cw Tryz.prog ak.ng (chk 75):=
 Wi (by decide) Tryz.func75 (by kernel_rfl) rfl Io Fo
end Go.Proofs.YtekljimefjclgaaGreatDoor
