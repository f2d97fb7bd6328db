/- slices.Sort of integers: the library's contract, at this program. -/
import Derived.Shelf.Sort.Plain
import Derived.KernelRfl
import Derived.Test.YtfcfglpkgcheiaaDoorChecked
namespace Go.Proofs.YtfcfglpkgcheiaaDoor
open Go Go.Proofs
def renS : Go.Shelf.Ren := ⟨fun | 189 => 58 | 125 => 75 | 257 => 74 | 128 => 96 | 129 => 97 | 294 => 87 | 295 => 88 | 296 => 89 | 297 => 90 | 298 => 91 | 299 => 92 | 216 => 93 | 300 => 94 | 301 => 95 | 328 => 109 | 329 => 110 | 330 => 111 | 331 => 112 | 332 => 113 | 215 => 114 | 343 => 127 | n => n, fun | 28 => 38 | 3 => 3 | 46 => 119 | 0 => 0 | 51 => 22 | 53 => 23 | 4 => 4 | 183 => 129 | 182 => 128 | 131 => 134 | 5 => 5 | 9 => 9 | 218 => 148 | 222 => 152 | 228 => 166 | 229 => 167 | n => n, fun n => n⟩
theorem laysS : Lays.n189 Tryd.prog renS where
  mixed := by kernel_rfl
  f125 := Tryd.func75.trans (congrArg some (by kernel_rfl))
  f128 := Tryd.func96.trans (congrArg some (by kernel_rfl))
  f129 := Tryd.func97.trans (congrArg some (by kernel_rfl))
  f189 := Tryd.func58.trans (congrArg some (by kernel_rfl))
  f215 := Tryd.func114.trans (congrArg some (by kernel_rfl))
  f216 := Tryd.func93.trans (congrArg some (by kernel_rfl))
  f257 := Tryd.func74.trans (congrArg some (by kernel_rfl))
  f294 := Tryd.func87.trans (congrArg some (by kernel_rfl))
  f295 := Tryd.func88.trans (congrArg some (by kernel_rfl))
  f296 := Tryd.func89.trans (congrArg some (by kernel_rfl))
  f297 := Tryd.func90.trans (congrArg some (by kernel_rfl))
  f298 := Tryd.func91.trans (congrArg some (by kernel_rfl))
  f299 := Tryd.func92.trans (congrArg some (by kernel_rfl))
  f300 := Tryd.func94.trans (congrArg some (by kernel_rfl))
  f301 := Tryd.func95.trans (congrArg some (by kernel_rfl))
  f328 := Tryd.func109.trans (congrArg some (by kernel_rfl))
  f329 := Tryd.func110.trans (congrArg some (by kernel_rfl))
  f330 := Tryd.func111.trans (congrArg some (by kernel_rfl))
  f331 := Tryd.func112.trans (congrArg some (by kernel_rfl))
  f332 := Tryd.func113.trans (congrArg some (by kernel_rfl))
  f343 := Tryd.func127.trans (congrArg some (by kernel_rfl))
  t0 := Tryd.underlying0
  a0 := Tryd.isAgg0
  z0 := Tryd.sizeOf0
  v0 := Tryd.zeroValue0
  t3 := Tryd.underlying3
  a3 := Tryd.isAgg3
  z3 := Tryd.sizeOf3
  v3 := Tryd.zeroValue3
  t4 := Tryd.underlying4
  a4 := Tryd.isAgg4
  z4 := Tryd.sizeOf4
  v4 := Tryd.zeroValue4
  t5 := Tryd.underlying5
  a5 := Tryd.isAgg5
  z5 := Tryd.sizeOf5
  v5 := Tryd.zeroValue5
  t9 := Tryd.underlying9
  a9 := Tryd.isAgg9
  z9 := Tryd.sizeOf9
  v9 := Tryd.zeroValue9
  t28 := Tryd.underlying38
  a28 := Tryd.isAgg38
  z28 := Tryd.sizeOf38
  v28 := Tryd.zeroValue38
  t46 := Tryd.underlying119
  a46 := Tryd.isAgg119
  z46 := Tryd.sizeOf119
  v46 := Tryd.zeroValue119
  t51 := Tryd.underlying22
  a51 := Tryd.isAgg22
  z51 := Tryd.sizeOf22
  v51 := Tryd.zeroValue22
  t53 := Tryd.underlying23
  a53 := Tryd.isAgg23
  z53 := Tryd.sizeOf23
  v53 := Tryd.zeroValue23
  t131 := Tryd.underlying134
  a131 := Tryd.isAgg134
  z131 := Tryd.sizeOf134
  v131 := Tryd.zeroValue134
  t182 := Tryd.underlying128
  a182 := Tryd.isAgg128
  z182 := Tryd.sizeOf128
  v182 := Tryd.zeroValue128
  t183 := Tryd.underlying129
  a183 := Tryd.isAgg129
  z183 := Tryd.sizeOf129
  v183 := Tryd.zeroValue129
  t218 := Tryd.underlying148
  a218 := Tryd.isAgg148
  z218 := Tryd.sizeOf148
  v218 := Tryd.zeroValue148
  t222 := Tryd.underlying152
  a222 := Tryd.isAgg152
  z222 := Tryd.sizeOf152
  v222 := Tryd.zeroValue152
  t228 := Tryd.underlying166
  a228 := Tryd.isAgg166
  z228 := Tryd.sizeOf166
  v228 := Tryd.zeroValue166
  t229 := Tryd.underlying167
  a229 := Tryd.isAgg167
  z229 := Tryd.sizeOf167
  v229 := Tryd.zeroValue167
end Go.Proofs.YtfcfglpkgcheiaaDoor
