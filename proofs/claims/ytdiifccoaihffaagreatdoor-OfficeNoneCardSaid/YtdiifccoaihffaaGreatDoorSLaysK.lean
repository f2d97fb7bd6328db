/- maps.Keys, slices.Sorted and slices.Sort lie in this program as the library has them. -/
import Derived.Shelf.SlIterI.Nil
import Derived.Shelf.SortM.Plain
import Derived.Shelf.SortM.SortNone
import Derived.KernelRfl
import Derived.Test.YtdiifccoaihffaaGreatDoorChecked
set_option maxRecDepth 100000
namespace Go.Proofs.YtdiifccoaihffaaGreatDoor
open Go Go.Proofs
def laysK_ren : Go.Shelf.Ren := ⟨fun | 7 => 50 | 10 => 102 | n => n, fun | 23 => 85 | 26 => 3 | 3 => 115 | 28 => 128 | 0 => 0 | 27 => 127 | 33 => 167 | 4 => 4 | n => n, fun | n => n⟩
theorem laysK : Go.Proofs.SlLaysZI.n7 Tryz.prog laysK_ren where
  mixed := by kernel_rfl
  f7 := ⟨"maps.Keys[map[int]*groundling/office.call,int,*groundling/office.call]", by decide, Tryz.func50.trans (congrArg some (by kernel_rfl))⟩
  f10 := ⟨"maps.Keys[map[int]*groundling/office.call,int,*groundling/office.call]$1", by decide, Tryz.func102.trans (congrArg some (by kernel_rfl))⟩
  t0 := Tryz.underlying0
  a0 := Tryz.isAgg0
  z0 := Tryz.sizeOf0
  v0 := Tryz.zeroValue0
  t4 := Tryz.underlying4
  a4 := Tryz.isAgg4
  z4 := Tryz.sizeOf4
  v4 := Tryz.zeroValue4
  t23 := Tryz.underlying85
  a23 := Tryz.isAgg85
  z23 := Tryz.sizeOf85
  v23 := Tryz.zeroValue85
  t26 := Tryz.underlying3
  a26 := Tryz.isAgg3
  z26 := Tryz.sizeOf3
  v26 := Tryz.zeroValue3
  t27 := Tryz.underlying127
  a27 := Tryz.isAgg127
  z27 := Tryz.sizeOf127
  v27 := Tryz.zeroValue127
  t28 := Tryz.underlying128
  a28 := Tryz.isAgg128
  z28 := Tryz.sizeOf128
  v28 := Tryz.zeroValue128
  t33 := Tryz.underlying167
  a33 := Tryz.isAgg167
  z33 := Tryz.sizeOf167
  v33 := Tryz.zeroValue167
def laysD_ren : Go.Shelf.Ren := ⟨fun | 6 => 49 | 8 => 100 | 9 => 101 | 11 => 165 | 13 => 167 | 12 => 166 | 23 => 251 | 24 => 252 | 14 => 242 | 15 => 243 | 16 => 244 | 17 => 245 | 18 => 246 | 19 => 247 | 20 => 248 | 21 => 249 | 22 => 250 | 25 => 294 | 26 => 295 | 27 => 296 | 28 => 297 | 29 => 298 | 30 => 267 | 31 => 327 | n => n, fun | 26 => 3 | 28 => 128 | 24 => 44 | 0 => 0 | 3 => 3 | 37 => 266 | 48 => 37 | 50 => 38 | 4 => 4 | 40 => 323 | 39 => 322 | 45 => 328 | 5 => 5 | 9 => 9 | 51 => 370 | 55 => 374 | 57 => 404 | 58 => 405 | 33 => 167 | n => n, fun | n => n⟩
theorem laysD : Go.Proofs.SlLaysZI.n6 Tryz.prog laysD_ren where
  mixed := by kernel_rfl
  f6 := ⟨"slices.Sorted[int]", by decide, Tryz.func49.trans (congrArg some (by kernel_rfl))⟩
  f8 := ⟨"slices.Collect[int]", by decide, Tryz.func100.trans (congrArg some (by kernel_rfl))⟩
  f11 := ⟨"slices.AppendSeq[[]int,int]", by decide, Tryz.func165.trans (congrArg some (by kernel_rfl))⟩
  t0 := Tryz.underlying0
  a0 := Tryz.isAgg0
  z0 := Tryz.sizeOf0
  v0 := Tryz.zeroValue0
  t24 := Tryz.underlying44
  a24 := Tryz.isAgg44
  z24 := Tryz.sizeOf44
  v24 := Tryz.zeroValue44
  t26 := Tryz.underlying3
  a26 := Tryz.isAgg3
  z26 := Tryz.sizeOf3
  v26 := Tryz.zeroValue3
  t28 := Tryz.underlying128
  a28 := Tryz.isAgg128
  z28 := Tryz.sizeOf128
  v28 := Tryz.zeroValue128
  i26 := by kernel_rfl
def laysS_ren : Go.Shelf.Ren := ⟨fun | 5 => 101 | 8 => 167 | 7 => 166 | 19 => 251 | 20 => 252 | 10 => 242 | 11 => 243 | 12 => 244 | 13 => 245 | 14 => 246 | 15 => 247 | 16 => 248 | 17 => 249 | 18 => 250 | 30 => 294 | 31 => 295 | 32 => 296 | 33 => 297 | 34 => 298 | 35 => 267 | 40 => 327 | n => n, fun | 23 => 44 | 25 => 3 | 3 => 3 | 32 => 266 | 22 => 44 | 0 => 0 | 44 => 37 | 46 => 38 | 4 => 4 | 36 => 323 | 35 => 322 | 41 => 328 | 5 => 5 | 9 => 9 | 53 => 370 | 57 => 374 | 63 => 404 | 64 => 405 | n => n, fun | n => n⟩
theorem laysS : Go.Proofs.SlLaysM.n5 Tryz.prog laysS_ren where
  mixed := by kernel_rfl
  f5 := ⟨"slices.Sort[[]int,int]", by decide, Tryz.func101.trans (congrArg some (by kernel_rfl))⟩
  f7 := ⟨"slices.pdqsortOrdered[int]", by decide, Tryz.func166.trans (congrArg some (by kernel_rfl))⟩
  f8 := Tryz.func167.trans (congrArg some (by kernel_rfl))
  f10 := ⟨"slices.insertionSortOrdered[int]", by decide, Tryz.func242.trans (congrArg some (by kernel_rfl))⟩
  f11 := ⟨"slices.heapSortOrdered[int]", by decide, Tryz.func243.trans (congrArg some (by kernel_rfl))⟩
  f12 := ⟨"slices.breakPatternsOrdered[int]", by decide, Tryz.func244.trans (congrArg some (by kernel_rfl))⟩
  f13 := ⟨"slices.choosePivotOrdered[int]", by decide, Tryz.func245.trans (congrArg some (by kernel_rfl))⟩
  f14 := ⟨"slices.reverseRangeOrdered[int]", by decide, Tryz.func246.trans (congrArg some (by kernel_rfl))⟩
  f15 := ⟨"slices.partialInsertionSortOrdered[int]", by decide, Tryz.func247.trans (congrArg some (by kernel_rfl))⟩
  f16 := ⟨"cmp.Less[int]", by decide, Tryz.func248.trans (congrArg some (by kernel_rfl))⟩
  f17 := ⟨"slices.partitionEqualOrdered[int]", by decide, Tryz.func249.trans (congrArg some (by kernel_rfl))⟩
  f18 := ⟨"slices.partitionOrdered[int]", by decide, Tryz.func250.trans (congrArg some (by kernel_rfl))⟩
  f19 := Tryz.func251.trans (congrArg some (by kernel_rfl))
  f20 := Tryz.func252.trans (congrArg some (by kernel_rfl))
  f30 := ⟨"slices.siftDownOrdered[int]", by decide, Tryz.func294.trans (congrArg some (by kernel_rfl))⟩
  f31 := Tryz.func295.trans (congrArg some (by kernel_rfl))
  f32 := Tryz.func296.trans (congrArg some (by kernel_rfl))
  f33 := ⟨"slices.medianAdjacentOrdered[int]", by decide, Tryz.func297.trans (congrArg some (by kernel_rfl))⟩
  f34 := ⟨"slices.medianOrdered[int]", by decide, Tryz.func298.trans (congrArg some (by kernel_rfl))⟩
  f35 := ⟨"cmp.isNaN[int]", by decide, Tryz.func267.trans (congrArg some (by kernel_rfl))⟩
  f40 := ⟨"slices.order2Ordered[int]", by decide, Tryz.func327.trans (congrArg some (by kernel_rfl))⟩
  t0 := Tryz.underlying0
  a0 := Tryz.isAgg0
  z0 := Tryz.sizeOf0
  v0 := Tryz.zeroValue0
  t3 := Tryz.underlying3
  a3 := Tryz.isAgg3
  z3 := Tryz.sizeOf3
  v3 := Tryz.zeroValue3
  t4 := Tryz.underlying4
  a4 := Tryz.isAgg4
  z4 := Tryz.sizeOf4
  v4 := Tryz.zeroValue4
  t5 := Tryz.underlying5
  a5 := Tryz.isAgg5
  z5 := Tryz.sizeOf5
  v5 := Tryz.zeroValue5
  t9 := Tryz.underlying9
  a9 := Tryz.isAgg9
  z9 := Tryz.sizeOf9
  v9 := Tryz.zeroValue9
  t22 := Tryz.underlying44
  a22 := Tryz.isAgg44
  z22 := Tryz.sizeOf44
  v22 := Tryz.zeroValue44
  t23 := Tryz.underlying44
  a23 := Tryz.isAgg44
  z23 := Tryz.sizeOf44
  v23 := Tryz.zeroValue44
  t25 := Tryz.underlying3
  a25 := Tryz.isAgg3
  z25 := Tryz.sizeOf3
  v25 := Tryz.zeroValue3
  t32 := Tryz.underlying266
  a32 := Tryz.isAgg266
  z32 := Tryz.sizeOf266
  v32 := Tryz.zeroValue266
  t35 := Tryz.underlying322
  a35 := Tryz.isAgg322
  z35 := Tryz.sizeOf322
  v35 := Tryz.zeroValue322
  t36 := Tryz.underlying323
  a36 := Tryz.isAgg323
  z36 := Tryz.sizeOf323
  v36 := Tryz.zeroValue323
  t41 := Tryz.underlying328
  a41 := Tryz.isAgg328
  z41 := Tryz.sizeOf328
  v41 := Tryz.zeroValue328
  t44 := Tryz.underlying37
  a44 := Tryz.isAgg37
  z44 := Tryz.sizeOf37
  v44 := Tryz.zeroValue37
  t46 := Tryz.underlying38
  a46 := Tryz.isAgg38
  z46 := Tryz.sizeOf38
  v46 := Tryz.zeroValue38
  t53 := Tryz.underlying370
  a53 := Tryz.isAgg370
  z53 := Tryz.sizeOf370
  v53 := Tryz.zeroValue370
  t57 := Tryz.underlying374
  a57 := Tryz.isAgg374
  z57 := Tryz.sizeOf374
  v57 := Tryz.zeroValue374
  t63 := Tryz.underlying404
  a63 := Tryz.isAgg404
  z63 := Tryz.sizeOf404
  v63 := Tryz.zeroValue404
  t64 := Tryz.underlying405
  a64 := Tryz.isAgg405
  z64 := Tryz.sizeOf405
  v64 := Tryz.zeroValue405
end Go.Proofs.YtdiifccoaihffaaGreatDoor
