/- slices.Delete: the library's contract, at this program. -/
import Derived.Test.YtmaoneengdafhaaGreatDoorPartB
import Derived.Shelf.SlicesE.Delete
import Derived.Test.YtmaoneengdafhaaGreatDoorChecked
set_option linter.unusedVariables false
set_option linter.unusedSimpArgs false
set_option linter.unusedSectionVars false
set_option linter.defProp false
set_option maxRecDepth 100000
namespace Go.Proofs.YtmaoneengdafhaaGreatDoor
open Go Go.Proofs Go.Eng Go.RowKit Go.Sort
def adu:Go.Shelf.Ren:=⟨λ|45=>164|n=>n,λ|22=>88|23=>43|n=>n,λ|n=>n⟩
def dlH:SlLaysE.n45 Tryz.prog adu where
 mixed:=by kernel_rfl
 f45:=⟨"slices.Delete[[]uint32,uint32]",by decide,Tryz.func164.trans (iH some (by kernel_rfl))⟩
 t0:=Tryz.underlying0
 a0:=Tryz.isAgg0
 z0:=Tryz.sizeOf0
 v0:=Tryz.zeroValue0
 t3:=Tryz.underlying3
 a3:=Tryz.isAgg3
 z3:=Tryz.sizeOf3
 v3:=Tryz.zeroValue3
 t4:=Tryz.underlying4
 a4:=Tryz.isAgg4
 z4:=Tryz.sizeOf4
 v4:=Tryz.zeroValue4
 t22:=Tryz.underlying88
 a22:=Tryz.isAgg88
 z22:=Tryz.sizeOf88
 v22:=Tryz.zeroValue88
 a23:=Tryz.isAgg43
 z23:=Tryz.sizeOf43
def acS:(Tryz.prog.info? 43).map (λi=>i.size)=some 1:=by kernel_rfl
def Qf(Xm off cap i:Nat)(zs:List Int)(w:World)(hH:Holds (Value.int .u32) w Xm off zs.toArray)(hl:zs.length<=cap)(hm:cap<=9223372036854775807)(hi:i<zs.length):
 Calls Tryz.prog 164 #[.slice (some ⟨Xm,off,none⟩) zs.length cap,.af (i:Nat),.af ((i:Int)+1)] w λe w'=>e=.returned (.slice (some ⟨Xm,off,none⟩) (zs.length-1) cap)/\∃n,w'=putRow (Value.int .u32) (Sort.ahead w n) Xm off (pc zs i).toArray:=by
 obtain⟨i0,h0,h1⟩:∃i0,Tryz.prog.info? 43=some i0/\i0.size=1:=by
  have:=acS;cases h:Tryz.prog.info? 43 with
  |none=>rw[h]at this;cases this
  |some i0=>rw[h]at this;exact⟨i0,rfl,by simpa using this⟩
 have h:=AnyE.slices_Delete dlH (Value.int .u32) (λ_=>rfl) 0 Tryz.zeroValue43 i0 h0 h1 Xm off cap i (i+1) zs.toArray w hH (by simpa using hl) hm (by omega) (by simp;omega);rw[C0]at h;change Calls Tryz.prog 164 _ _ _ at h;have e:(zs.toArray.toList.take i++zs.toArray.toList.drop (i+1)++List.replicate 1 (0:Int)).toArray=(pc zs i).toArray:=rfl;rw[e]at h;exact h
end Go.Proofs.YtmaoneengdafhaaGreatDoor
