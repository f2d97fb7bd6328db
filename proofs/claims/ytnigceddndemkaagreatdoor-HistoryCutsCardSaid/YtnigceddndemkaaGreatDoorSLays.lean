/- strings.Join and strings.Builder: the library's contracts, at this program. -/
import Derived.Shelf.Strings.OnBuilder
import Derived.KernelRfl
import Derived.Test.YtnigceddndemkaaGreatDoorChecked
namespace Go.Proofs.YtnigceddndemkaaGreatDoor
open Go Go.Proofs
def laysJ_ren : Go.Shelf.Ren := ⟨fun | 156 => 215 | 165 => 248 | 166 => 158 | 169 => 160 | 240 => 218 | 241 => 279 | 276 => 251 | 277 => 311 | n => n, fun | 31 => 311 | 9 => 9 | 3 => 3 | 4 => 4 | 0 => 0 | 20 => 20 | 72 => 246 | 76 => 249 | 70 => 243 | 37 => 244 | 75 => 248 | 127 => 318 | 164 => 358 | 5 => 5 | 80 => 174 | n => n, fun | n => n⟩
theorem laysJ : Lays.n156 Tryz.prog laysJ_ren where
  mixed := by kernel_rfl
  f156 := Tryz.func215.trans (congrArg some (by kernel_rfl))
  f165 := Tryz.func248.trans (congrArg some (by kernel_rfl))
  f166 := Tryz.func158.trans (congrArg some (by kernel_rfl))
  f169 := Tryz.func160.trans (congrArg some (by kernel_rfl))
  f240 := Tryz.func218.trans (congrArg some (by kernel_rfl))
  f241 := Tryz.func279.trans (congrArg some (by kernel_rfl))
  f276 := Tryz.func251.trans (congrArg some (by kernel_rfl))
  f277 := Tryz.func311.trans (congrArg some (by kernel_rfl))
  t0 := Tryz.underlying0
  a0 := Tryz.isAgg0
  z0 := Tryz.sizeOf0
  v0 := Tryz.zeroValue0
  t3 := Tryz.underlying3
  a3 := Tryz.isAgg3
  z3 := Tryz.sizeOf3
  v3 := Tryz.zeroValue3
  t4 := Tryz.underlying4
  a4 := Tryz.isAgg4
  z4 := Tryz.sizeOf4
  v4 := Tryz.zeroValue4
  t9 := Tryz.underlying9
  a9 := Tryz.isAgg9
  z9 := Tryz.sizeOf9
  v9 := Tryz.zeroValue9
  t20 := Tryz.underlying20
  a20 := Tryz.isAgg20
  z20 := Tryz.sizeOf20
  v20 := Tryz.zeroValue20
  t31 := Tryz.underlying311
  a31 := Tryz.isAgg311
  z31 := Tryz.sizeOf311
  v31 := Tryz.zeroValue311
  t37 := Tryz.underlying244
  a37 := Tryz.isAgg244
  z37 := Tryz.sizeOf244
  v37 := Tryz.zeroValue244
  t70 := Tryz.underlying243
  a70 := Tryz.isAgg243
  z70 := Tryz.sizeOf243
  v70 := Tryz.zeroValue243
  t72 := Tryz.underlying246
  a72 := Tryz.isAgg246
  z72 := Tryz.sizeOf246
  v72 := Tryz.zeroValue246
  t75 := Tryz.underlying248
  a75 := Tryz.isAgg248
  z75 := Tryz.sizeOf248
  v75 := Tryz.zeroValue248
  t76 := Tryz.underlying249
  a76 := Tryz.isAgg249
  z76 := Tryz.sizeOf249
  v76 := Tryz.zeroValue249
  t127 := Tryz.underlying318
  a127 := Tryz.isAgg318
  z127 := Tryz.sizeOf318
  v127 := Tryz.zeroValue318
  t164 := Tryz.underlying358
  a164 := Tryz.isAgg358
  z164 := Tryz.sizeOf358
  v164 := Tryz.zeroValue358
theorem laysX : Builder.Extra Tryz.prog laysJ_ren where
  sizeBuilder := by kernel_rfl
  liesBuilder := by kernel_rfl
  t5 := Tryz.underlying5
  a5 := Tryz.isAgg5
  z5 := Tryz.sizeOf5
  v5 := Tryz.zeroValue5
  infoByte := by kernel_rfl
  cellsByte := by kernel_rfl
  sizeByte := by kernel_rfl
  neB5 := by decide
theorem laysC : Lays.n240 Tryz.prog laysJ_ren := { laysJ with }
end Go.Proofs.YtnigceddndemkaaGreatDoor
