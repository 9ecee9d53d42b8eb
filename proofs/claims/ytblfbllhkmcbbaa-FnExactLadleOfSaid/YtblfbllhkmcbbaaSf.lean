/-
  Contracts of the library's insertion sort by a comparison and of slices.IndexFunc, laid at this program for integers.
-/
import Derived.Shelf.SlSortCmp.Insertion
import Derived.Shelf.SlicesE.IndexFunc
import Derived.Test.YtblfbllhkmcbbaaProg
namespace Go.Proofs
open Go.Shelf
def Try.sortRen : Go.Shelf.Ren := ⟨fun | 20 => 92 | n => n, fun | 22 => 32 | 24 => 3 | 25 => 90 | n => n, fun | n => n⟩
theorem Try.sortL : Go.Proofs.SlLaysF.n20 Try.prog Try.sortRen := {
  mixed := by kernel_rfl
  f20 := ⟨Try.f92.name, by kernel_rfl, Try.func92.trans (congrArg some (by kernel_rfl))⟩
  t0 := Try.underlying0
  a0 := Try.isAgg0
  z0 := Try.sizeOf0
  v0 := Try.zeroValue0
  t3 := Try.underlying3
  a3 := Try.isAgg3
  z3 := Try.sizeOf3
  v3 := Try.zeroValue3
  t4 := Try.underlying4
  a4 := Try.isAgg4
  z4 := Try.sizeOf4
  v4 := Try.zeroValue4
  t22 := Try.underlying32
  a22 := Try.isAgg32
  z22 := Try.sizeOf32
  v22 := Try.zeroValue32
  a24 := Try.isAgg3
  z24 := Try.sizeOf3
  t25 := Try.underlying90
  a25 := Try.isAgg90
  z25 := Try.sizeOf90
  v25 := Try.zeroValue90 }
def Try.idxRen : Go.Shelf.Ren := ⟨fun | 6 => 71 | n => n, fun | 22 => 32 | 23 => 3 | 25 => 92 | n => n, fun | n => n⟩
theorem Try.idxL : Go.Proofs.SlLaysH.n6 Try.prog Try.idxRen := {
  mixed := by kernel_rfl
  f6 := ⟨Try.f71.name, by kernel_rfl, Try.func71.trans (congrArg some (by kernel_rfl))⟩
  t0 := Try.underlying0
  a0 := Try.isAgg0
  z0 := Try.sizeOf0
  v0 := Try.zeroValue0
  t3 := Try.underlying3
  a3 := Try.isAgg3
  z3 := Try.sizeOf3
  v3 := Try.zeroValue3
  t4 := Try.underlying4
  a4 := Try.isAgg4
  z4 := Try.sizeOf4
  v4 := Try.zeroValue4
  t22 := Try.underlying32
  a22 := Try.isAgg32
  z22 := Try.sizeOf32
  v22 := Try.zeroValue32
  a23 := Try.isAgg3
  z23 := Try.sizeOf3
  t25 := Try.underlying92
  a25 := Try.isAgg92
  z25 := Try.sizeOf92
  v25 := Try.zeroValue92 }
end Go.Proofs
