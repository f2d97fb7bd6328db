/- maps.Keys, slices.Sorted and slices.Sort lie in this program as the library has them. -/
import Derived.Shelf.SlIterI.Nil
import Derived.Shelf.SortM.Plain
import Derived.Shelf.SortM.SortNone
import Derived.KernelRfl
import Derived.Test.YthjakbhkmpdblaaGreatDoorChecked
set_option maxRecDepth 100000
namespace Go.Proofs.YthjakbhkmpdblaaGreatDoor
open Go Go.Proofs
def laysK_ren : Go.Shelf.Ren := ⟨fun | 7 => 72 | 10 => 103 | n => n, fun | 23 => 133 | 26 => 3 | 3 => 134 | 28 => 82 | 0 => 0 | 27 => 81 | 33 => 77 | 4 => 4 | n => n, fun | n => n⟩
theorem laysK : Go.Proofs.SlLaysZI.n7 Tryz.prog laysK_ren where
  mixed := by kernel_rfl
  f7 := ⟨"maps.Keys[map[int]*groundling/office.call,int,*groundling/office.call]", by decide, Tryz.func72.trans (congrArg some (by kernel_rfl))⟩
  f10 := ⟨"maps.Keys[map[int]*groundling/office.call,int,*groundling/office.call]$1", by decide, Tryz.func103.trans (congrArg some (by kernel_rfl))⟩
  t0 := Tryz.underlying0
  a0 := Tryz.isAgg0
  z0 := Tryz.sizeOf0
  v0 := Tryz.zeroValue0
  t4 := Tryz.underlying4
  a4 := Tryz.isAgg4
  z4 := Tryz.sizeOf4
  v4 := Tryz.zeroValue4
  t23 := Tryz.underlying133
  a23 := Tryz.isAgg133
  z23 := Tryz.sizeOf133
  v23 := Tryz.zeroValue133
  t26 := Tryz.underlying3
  a26 := Tryz.isAgg3
  z26 := Tryz.sizeOf3
  v26 := Tryz.zeroValue3
  t27 := Tryz.underlying81
  a27 := Tryz.isAgg81
  z27 := Tryz.sizeOf81
  v27 := Tryz.zeroValue81
  t28 := Tryz.underlying82
  a28 := Tryz.isAgg82
  z28 := Tryz.sizeOf82
  v28 := Tryz.zeroValue82
  t33 := Tryz.underlying77
  a33 := Tryz.isAgg77
  z33 := Tryz.sizeOf77
  v33 := Tryz.zeroValue77
def laysD_ren : Go.Shelf.Ren := ⟨fun | 6 => 71 | 8 => 34 | 9 => 102 | 11 => 64 | 13 => 74 | 12 => 164 | 23 => 112 | 24 => 113 | 14 => 224 | 15 => 225 | 16 => 226 | 17 => 227 | 18 => 228 | 19 => 229 | 20 => 76 | 21 => 230 | 22 => 231 | 25 => 271 | 26 => 166 | 27 => 167 | 28 => 272 | 29 => 273 | 30 => 114 | 31 => 291 | n => n, fun | 26 => 3 | 28 => 82 | 24 => 40 | 0 => 0 | 3 => 3 | 37 => 145 | 48 => 51 | 50 => 52 | 4 => 4 | 40 => 191 | 39 => 190 | 45 => 99 | 5 => 5 | 9 => 9 | 51 => 237 | 55 => 241 | 57 => 312 | 58 => 313 | 33 => 77 | n => n, fun | n => n⟩
theorem laysD : Go.Proofs.SlLaysZI.n6 Tryz.prog laysD_ren where
  mixed := by kernel_rfl
  f6 := ⟨"slices.Sorted[int]", by decide, Tryz.func71.trans (congrArg some (by kernel_rfl))⟩
  f8 := ⟨"slices.Collect[int]", by decide, Tryz.func34.trans (congrArg some (by kernel_rfl))⟩
  f11 := ⟨"slices.AppendSeq[[]int,int]", by decide, Tryz.func64.trans (congrArg some (by kernel_rfl))⟩
  t0 := Tryz.underlying0
  a0 := Tryz.isAgg0
  z0 := Tryz.sizeOf0
  v0 := Tryz.zeroValue0
  t24 := Tryz.underlying40
  a24 := Tryz.isAgg40
  z24 := Tryz.sizeOf40
  v24 := Tryz.zeroValue40
  t26 := Tryz.underlying3
  a26 := Tryz.isAgg3
  z26 := Tryz.sizeOf3
  v26 := Tryz.zeroValue3
  t28 := Tryz.underlying82
  a28 := Tryz.isAgg82
  z28 := Tryz.sizeOf82
  v28 := Tryz.zeroValue82
  i26 := by kernel_rfl
def laysS_ren : Go.Shelf.Ren := ⟨fun | 5 => 102 | 8 => 74 | 7 => 164 | 19 => 112 | 20 => 113 | 10 => 224 | 11 => 225 | 12 => 226 | 13 => 227 | 14 => 228 | 15 => 229 | 16 => 76 | 17 => 230 | 18 => 231 | 30 => 271 | 31 => 166 | 32 => 167 | 33 => 272 | 34 => 273 | 35 => 114 | 40 => 291 | n => n, fun | 23 => 40 | 25 => 3 | 3 => 3 | 32 => 145 | 22 => 40 | 0 => 0 | 44 => 51 | 46 => 52 | 4 => 4 | 36 => 191 | 35 => 190 | 41 => 99 | 5 => 5 | 9 => 9 | 53 => 237 | 57 => 241 | 63 => 312 | 64 => 313 | n => n, fun | n => n⟩
theorem laysS : Go.Proofs.SlLaysM.n5 Tryz.prog laysS_ren where
  mixed := by kernel_rfl
  f5 := ⟨"slices.Sort[[]int,int]", by decide, Tryz.func102.trans (congrArg some (by kernel_rfl))⟩
  f7 := ⟨"slices.pdqsortOrdered[int]", by decide, Tryz.func164.trans (congrArg some (by kernel_rfl))⟩
  f8 := Tryz.func74.trans (congrArg some (by kernel_rfl))
  f10 := ⟨"slices.insertionSortOrdered[int]", by decide, Tryz.func224.trans (congrArg some (by kernel_rfl))⟩
  f11 := ⟨"slices.heapSortOrdered[int]", by decide, Tryz.func225.trans (congrArg some (by kernel_rfl))⟩
  f12 := ⟨"slices.breakPatternsOrdered[int]", by decide, Tryz.func226.trans (congrArg some (by kernel_rfl))⟩
  f13 := ⟨"slices.choosePivotOrdered[int]", by decide, Tryz.func227.trans (congrArg some (by kernel_rfl))⟩
  f14 := ⟨"slices.reverseRangeOrdered[int]", by decide, Tryz.func228.trans (congrArg some (by kernel_rfl))⟩
  f15 := ⟨"slices.partialInsertionSortOrdered[int]", by decide, Tryz.func229.trans (congrArg some (by kernel_rfl))⟩
  f16 := ⟨"cmp.Less[int]", by decide, Tryz.func76.trans (congrArg some (by kernel_rfl))⟩
  f17 := ⟨"slices.partitionEqualOrdered[int]", by decide, Tryz.func230.trans (congrArg some (by kernel_rfl))⟩
  f18 := ⟨"slices.partitionOrdered[int]", by decide, Tryz.func231.trans (congrArg some (by kernel_rfl))⟩
  f19 := Tryz.func112.trans (congrArg some (by kernel_rfl))
  f20 := Tryz.func113.trans (congrArg some (by kernel_rfl))
  f30 := ⟨"slices.siftDownOrdered[int]", by decide, Tryz.func271.trans (congrArg some (by kernel_rfl))⟩
  f31 := Tryz.func166.trans (congrArg some (by kernel_rfl))
  f32 := Tryz.func167.trans (congrArg some (by kernel_rfl))
  f33 := ⟨"slices.medianAdjacentOrdered[int]", by decide, Tryz.func272.trans (congrArg some (by kernel_rfl))⟩
  f34 := ⟨"slices.medianOrdered[int]", by decide, Tryz.func273.trans (congrArg some (by kernel_rfl))⟩
  f35 := ⟨"cmp.isNaN[int]", by decide, Tryz.func114.trans (congrArg some (by kernel_rfl))⟩
  f40 := ⟨"slices.order2Ordered[int]", by decide, Tryz.func291.trans (congrArg some (by kernel_rfl))⟩
  t0 := Tryz.underlying0
  a0 := Tryz.isAgg0
  z0 := Tryz.sizeOf0
  v0 := Tryz.zeroValue0
  t3 := Tryz.underlying3
  a3 := Tryz.isAgg3
  z3 := Tryz.sizeOf3
  v3 := Tryz.zeroValue3
  t4 := Tryz.underlying4
  a4 := Tryz.isAgg4
  z4 := Tryz.sizeOf4
  v4 := Tryz.zeroValue4
  t5 := Tryz.underlying5
  a5 := Tryz.isAgg5
  z5 := Tryz.sizeOf5
  v5 := Tryz.zeroValue5
  t9 := Tryz.underlying9
  a9 := Tryz.isAgg9
  z9 := Tryz.sizeOf9
  v9 := Tryz.zeroValue9
  t22 := Tryz.underlying40
  a22 := Tryz.isAgg40
  z22 := Tryz.sizeOf40
  v22 := Tryz.zeroValue40
  t23 := Tryz.underlying40
  a23 := Tryz.isAgg40
  z23 := Tryz.sizeOf40
  v23 := Tryz.zeroValue40
  t25 := Tryz.underlying3
  a25 := Tryz.isAgg3
  z25 := Tryz.sizeOf3
  v25 := Tryz.zeroValue3
  t32 := Tryz.underlying145
  a32 := Tryz.isAgg145
  z32 := Tryz.sizeOf145
  v32 := Tryz.zeroValue145
  t35 := Tryz.underlying190
  a35 := Tryz.isAgg190
  z35 := Tryz.sizeOf190
  v35 := Tryz.zeroValue190
  t36 := Tryz.underlying191
  a36 := Tryz.isAgg191
  z36 := Tryz.sizeOf191
  v36 := Tryz.zeroValue191
  t41 := Tryz.underlying99
  a41 := Tryz.isAgg99
  z41 := Tryz.sizeOf99
  v41 := Tryz.zeroValue99
  t44 := Tryz.underlying51
  a44 := Tryz.isAgg51
  z44 := Tryz.sizeOf51
  v44 := Tryz.zeroValue51
  t46 := Tryz.underlying52
  a46 := Tryz.isAgg52
  z46 := Tryz.sizeOf52
  v46 := Tryz.zeroValue52
  t53 := Tryz.underlying237
  a53 := Tryz.isAgg237
  z53 := Tryz.sizeOf237
  v53 := Tryz.zeroValue237
  t57 := Tryz.underlying241
  a57 := Tryz.isAgg241
  z57 := Tryz.sizeOf241
  v57 := Tryz.zeroValue241
  t63 := Tryz.underlying312
  a63 := Tryz.isAgg312
  z63 := Tryz.sizeOf312
  v63 := Tryz.zeroValue312
  t64 := Tryz.underlying313
  a64 := Tryz.isAgg313
  z64 := Tryz.sizeOf313
  v64 := Tryz.zeroValue313
end Go.Proofs.YthjakbhkmpdblaaGreatDoor
