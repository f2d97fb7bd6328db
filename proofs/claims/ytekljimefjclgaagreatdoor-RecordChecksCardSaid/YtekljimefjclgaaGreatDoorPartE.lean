/- A record that is handed in, opened. -/
import Derived.Test.YtekljimefjclgaaGreatDoorPartD
set_option linter.unusedVariables false
set_option linter.unusedSimpArgs false
set_option linter.unusedSectionVars false
set_option linter.defProp false
noncomputable section
open Go renaming TypeId->ai,Value->ae
set_option maxRecDepth 100000
namespace Go.Proofs.YtekljimefjclgaaGreatDoor
open Go Go.Eng Go.RowKit
def Vi(l c:Nat):sS (.slice none l c) (.slice none l c)=true:=by simp[sS]
def T3{W:AW}{n:Nat}{t e:ai}{v:ae}(h:DR Tryz.prog W (n+1) t [v])(ht:Tryz.prog.underlying t=some (.slice e)):∃a l c,v=.slice a l c/\(a=none\/∃b,a=some ⟨b,0,none⟩):=by obtain⟨a,len,cap,e1,-,-,h3,-⟩:=h.X5 ht;injection e1 with e1;exact⟨a,len,cap,e1,h3⟩
def aaC{v:ae}(h:∃a l c,v=.slice a l c/\(a=none\/∃b,a=some ⟨b,0,none⟩)):sS v v=true/\Eng.one v=true:=by
 obtain⟨a,l,c,rfl,rfl|⟨b,rfl⟩⟩:=h
 ·exact⟨Vi _ _,rfl⟩
 ·exact⟨xP _ _ _ _,rfl⟩
def YY{W:AW}{n:Nat}{c:List ae}(h:DR Tryz.prog W (n+3) 66 c):∃s:jr,∀pre post,Pq W (pre++(c++post)) pre.length s:=by
 obtain⟨c1,c2,rfl,h1,h2⟩:=(h.struct Tryz.underlying66).cons;obtain⟨c3,c4,rfl,h3,h4⟩:=h2.cons;obtain⟨c5,c6,rfl,h5,h6⟩:=h4.cons;obtain rfl:=h6.nil;obtain⟨s,rfl,_⟩:=h1.str Tryz.underlying9;obtain⟨rv,zs,rfl,hz,_⟩:=h3.ints Tryz.underlying64 Tryz.underlying3 (by kernel_rfl);obtain⟨q,rfl⟩:=h5.int Tryz.underlying3;refine⟨⟨s.data.toList,zs,q⟩,λpre post=>⟨?_,?_,rv,?_,hz,aaC (T3 h3 Tryz.underlying64)⟩⟩
 ·rw[ig (by omega),HL];simp
 ·rw[ig (by omega),wG];rfl
 ·rw[ig (by omega),wG];rfl
def Y6{W:AW}{n:Nat}{c:List ae}(h:DR Tryz.prog W (n+5) 24 c):∃(v:cT) (sv:ae),c=[.af v.sh,.af v.sU,.af v.sF,sv]/\eX W sv v.az:=by obtain⟨c1,c2,rfl,h1,h2⟩:=(h.struct Tryz.underlying24).cons;obtain⟨c3,c4,rfl,h3,h4⟩:=h2.cons;obtain⟨c5,c6,rfl,h5,h6⟩:=h4.cons;obtain⟨c7,c8,rfl,h7,h8⟩:=h6.cons;obtain rfl:=h8.nil;obtain⟨a,rfl⟩:=h1.int Tryz.underlying3;obtain⟨b,rfl⟩:=h3.int Tryz.underlying2;obtain⟨d,rfl⟩:=h5.int Tryz.underlying2;obtain⟨sv,l,rfl,r1,a',c',r2,r3,r4,r5⟩:=h7.row Tryz.underlying22 (at_:=Pq W) (λc _ hc=>YY hc);exact⟨⟨a,b,d,l⟩,sv,rfl,r1,a',c',r2,.inl ⟨r3,r4⟩,r5⟩
def VW{W:AW}{n:Nat}{c:List ae}(h:DR Tryz.prog W (n+2) 39 c):∃a b d e:Int,c=[.int .u32 a,.int .u32 b,.int .u64 d,.int .u64 e]:=by obtain⟨c1,c2,rfl,h1,h2⟩:=(h.struct Tryz.underlying39).cons;obtain⟨c3,c4,rfl,h3,h4⟩:=h2.cons;obtain⟨c5,c6,rfl,h5,h6⟩:=h4.cons;obtain⟨c7,c8,rfl,h7,h8⟩:=h6.cons;obtain rfl:=h8.nil;obtain⟨a,rfl⟩:=h1.int Tryz.underlying36;obtain⟨b,rfl⟩:=h3.int Tryz.underlying36;obtain⟨d,rfl⟩:=h5.int Tryz.underlying37;obtain⟨e,rfl⟩:=h7.int Tryz.underlying37;exact⟨a,b,d,e,rfl⟩
def XZ{W:AW}{n:Nat}{t:ai}{cs:List ae}(h:DR Tryz.prog W (n+1) t cs)(ht:Tryz.prog.underlying t=some (.int .i64)):∃m,cs=[.af m]/\m<9223372036854775808:=by unfold DR at h;rw[ht]at h;obtain⟨m,h1,-,h3⟩:=h;have:IntKind.i64.max=9223372036854775807:=rfl;exact⟨m,h1,by omega⟩
def aca{W:AW}{n:Nat}{c:List ae}(h:DR Tryz.prog W (n+3) 41 c):∃o:pV,c=(yb o).cells.toList/\o.nw<9223372036854775808:=by obtain⟨c1,r1,rfl,h1,h⟩:=(h.struct Tryz.underlying41).cons;obtain⟨c2,r2,rfl,h2,h⟩:=h.cons;obtain⟨c3,r3,rfl,h3,h⟩:=h.cons;obtain⟨c4,r4,rfl,h4,h⟩:=h.cons;obtain⟨c5,r5,rfl,h5,h⟩:=h.cons;obtain⟨c6,r6,rfl,h6,h⟩:=h.cons;obtain⟨c7,r7,rfl,h7,h⟩:=h.cons;obtain⟨c8,r8,rfl,h8,h⟩:=h.cons;obtain⟨c9,r9,rfl,h9,h⟩:=h.cons;obtain rfl:=h.nil;obtain⟨x1,rfl⟩:=h1.int Tryz.underlying3;obtain⟨x2,rfl⟩:=h2.int Tryz.underlying36;obtain⟨x3,rfl⟩:=h3.int Tryz.underlying2;obtain⟨x4,rfl⟩:=h4.int Tryz.underlying3;obtain⟨x5,rfl⟩:=h5.int Tryz.underlying3;obtain⟨x6,rfl⟩:=h6.int Tryz.underlying3;obtain⟨x7,rfl⟩:=h7.int Tryz.underlying36;obtain⟨a,b,d,e,rfl⟩:=VW h8;obtain⟨x9,rfl,hb9⟩:=XZ h9 Tryz.underlying2;exact⟨⟨x1,x2,x3,x4,x5,x6,x7,a,b,d,e,x9⟩,rfl,hb9⟩
def ab6{W:AW}{n:Nat}{c:List ae}(h:DR Tryz.prog W (n+3) 43 c):∃o:HU,c=(GZ o).cells.toList:=by obtain⟨c1,r1,rfl,h1,h⟩:=(h.struct Tryz.underlying43).cons;obtain⟨c2,r2,rfl,h2,h⟩:=h.cons;obtain⟨c3,r3,rfl,h3,h⟩:=h.cons;obtain⟨c4,r4,rfl,h4,h⟩:=h.cons;obtain⟨c5,r5,rfl,h5,h⟩:=h.cons;obtain⟨c6,r6,rfl,h6,h⟩:=h.cons;obtain rfl:=h.nil;obtain⟨x1,rfl⟩:=h1.int Tryz.underlying30;obtain⟨x2,rfl⟩:=h2.int Tryz.underlying3;obtain⟨x3,rfl⟩:=h3.int Tryz.underlying3;obtain⟨x4,rfl⟩:=h4.int Tryz.underlying2;obtain⟨a,b,d,e,rfl⟩:=VW h5;obtain⟨x6,rfl⟩:=h6.int Tryz.underlying3;exact⟨⟨x1,x2,x3,x4,a,b,d,e,x6⟩,rfl⟩
def acd{W:AW}{n:Nat}{c:List ae}(h:DR Tryz.prog W (n+2) 60 c):∃e:IB,c=Ua e:=by obtain⟨c1,r1,rfl,h1,h⟩:=(h.struct Tryz.underlying60).cons;obtain⟨c2,r2,rfl,h2,h⟩:=h.cons;obtain⟨c3,r3,rfl,h3,h⟩:=h.cons;obtain⟨c4,r4,rfl,h4,h⟩:=h.cons;obtain⟨c5,r5,rfl,h5,h⟩:=h.cons;obtain rfl:=h.nil;obtain⟨x1,rfl⟩:=h1.int Tryz.underlying36;obtain⟨x2,rfl⟩:=h2.int Tryz.underlying37;obtain⟨x3,rfl⟩:=h3.int Tryz.underlying37;obtain⟨x4,rfl⟩:=h4.int Tryz.underlying3;obtain⟨x5,rfl⟩:=h5.int Tryz.underlying2;exact⟨⟨x1,x2,x3,x4,x5⟩,rfl⟩
def adQ{W:AW}{n:Nat}{c:List ae}(h:DR Tryz.prog W (n+4) 98 c):∃e:eg,c=eY e:=by obtain⟨c1,r1,rfl,h1,h⟩:=(h.struct Tryz.underlying98).cons;obtain⟨c2,r2,rfl,h2,h⟩:=h.cons;obtain⟨c3,r3,rfl,h3,h⟩:=h.cons;obtain⟨c4,r4,rfl,h4,h⟩:=h.cons;obtain⟨c5,r5,rfl,h5,h⟩:=h.cons;obtain⟨c6,r6,rfl,h6,h⟩:=h.cons;obtain⟨c7,r7,rfl,h7,h⟩:=h.cons;obtain⟨c8,r8,rfl,h8,h⟩:=h.cons;obtain rfl:=h.nil;obtain⟨x1,rfl⟩:=h1.int Tryz.underlying3;obtain⟨x2,rfl⟩:=h2.int Tryz.underlying3;obtain⟨x3,rfl⟩:=h3.int Tryz.underlying3;obtain⟨x4,rfl⟩:=h4.int Tryz.underlying3;obtain⟨x5,rfl⟩:=h5.int Tryz.underlying3;obtain⟨o,rfl,-⟩:=aca h6;obtain⟨r,rfl⟩:=ab6 h7;obtain⟨g,rfl⟩:=acd (n:=n+1) h8;exact⟨⟨x1,x2,x3,x4,x5,o,r,g⟩,rfl⟩
def WN{W:AW}{n:Nat}{c:List ae}(h:DR Tryz.prog W (n+6) 27 c):∃(v:cT) (sv ev:ae) (l:List eg),c=[.af v.sh,.af v.sU,.af v.sF,sv,ev]/\eX W sv v.az/\KJ W ev l:=by obtain⟨c1,c2,rfl,h1,h2⟩:=(h.struct Tryz.underlying27).cons;obtain⟨c3,c4,rfl,h3,h4⟩:=h2.cons;obtain rfl:=h4.nil;obtain⟨v,sv,rfl,hs⟩:=Y6 h1;obtain⟨ev,l,rfl,hr⟩:=h3.row Tryz.underlying25 (at_:=pM 31 eY) (λc _ hc=>by obtain⟨e,rfl⟩:=adQ hc;exact⟨e,λpre post=>xY Ts e pre post⟩);exact⟨v,sv,ev,l,rfl,hs,hr.1⟩
section
variable {H:Type} {enc:ai×ae->H} {w:World} {σ:cV} {W:AW} {v0:ae} {d:DataW H} {p:List MemPlace} {r:Reach} {b0:Nat}
def Y0{t:ai}{fs:Array Field}(ht:Tryz.prog.underlying t=some (.struct fs))(hv:Value.okWide Tryz.prog w r b0 t v0):∃cs,v0=.agg cs:=by unfold Value.okWide at hv;rw[ht]at hv;obtain⟨cs,h,_⟩:=hv;exact⟨cs,h⟩
def acO:QI Tryz.prog 7 27=true:=by kernel_rfl
def T5(ho:kn σ W w)(hv:Value.okWide Tryz.prog w r b0 27 v0)(h:DataW.Trod enc Tryz.prog w 0 (λ_=>true) true 27 v0 d p):
 ∃(σ2:cV) (W2:AW) (v:cT) (sv ev:ae) (l:List eg),kn σ2 W2 w/\Sub σ σ2/\Le W W2/\VR σ2 (BS v sv ev) v0/\eX W2 sv v.az/\KJ W2 ev l:=by
 obtain⟨cs,rfl⟩:=Y0 Tryz.underlying27 hv;obtain⟨m,hm⟩:=h;obtain⟨σ2,W2,CI,o2,s2,l2,r2,a2⟩:=IS acO hm σ W ho;obtain⟨v,sv,ev,l,rfl,hs,hr⟩:=WN a2;exact⟨σ2,W2,v,sv,ev,l,o2,s2,l2,.Kg (a:=#[.af v.sh,.af v.sU,.af v.sF,sv,ev]) r2,hs,hr⟩
end
def ad5{w:World}(hl:tI jF w.heap):kn (σG jF) (WG jF 1) w:=⟨Vy rfl hl,Vf,0,_,rfl⟩
def ahU:GW (WG jF 1):=Ug rfl (λx hx=>by
 have h2:x=(0,pp):=by simpa[jF]using hx
 rw[h2];rfl)
def aef{W:AW}(h:Le (WG jF 1) W):GW W:=ahU.mono h
def adl:Kids Tryz.prog (· <Tryz.prog.types.size):=kids_rows (by kernel_rfl) (by kernel_rfl)
def ae5:∀t e,t<Tryz.prog.types.size->Tryz.prog.underlying t=some (.slice e)->0<Tryz.prog.cellsOf e:=slices_full_of Tryz.prog (by kernel_rfl)
def Iy(iJ:bV Tryz.prog ak.ng bl){w:World}{σ:cV}{W:AW}(ho:kn σ W w)(hs:Sub (σG jF) σ){i:Nat}{args da:List ae}(hr:LR σ args da)(h:bl (.func (.func i) #[] #[]) args W=some (.bool true,W)):
 Calls Tryz.prog i da.toArray w λe w'=>e=.returned (.bool true)/\dH w w':=by
 have hG:tx σ [0]:=λg hg=>by obtain⟨e,he⟩:=(RV (gs:=jF) (ng:=[0]) rfl) g hg;exact⟨e,hs _ _ he⟩
 exact Pl iJ ho.rel hG ho.ro hr rfl h
end Go.Proofs.YtekljimefjclgaaGreatDoor
