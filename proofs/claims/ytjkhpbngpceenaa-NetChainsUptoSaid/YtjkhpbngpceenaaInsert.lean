/- slices.Insert at []int: the library's contracts, at this program. -/
import Derived.Test.YtjkhpbngpceenaaProg
import Derived.Shelf.Spec.SlicesInsert
import Derived.Shelf.Spec.SlicesInsertGrow
namespace Go.Proofs.Ytjkhpbngpceenaa
open Go.Shelf
def insRen : Go.Shelf.Ren := ⟨fun | 21 => 77 | 27 => 94 | 28 => 95 | 35 => 101 | 39 => 103 | n => n, fun | 22 => 22 | 3 => 3 | 4 => 4 | 0 => 0 | n => n, fun | n => n⟩
theorem laysIns : Go.Proofs.Lays2.n21 Try.prog insRen := {
  mixed := by kernel_rfl
  f21 := Try.func77.trans (congrArg some (by kernel_rfl))
  f27 := Try.func94.trans (congrArg some (by kernel_rfl))
  f28 := Try.func95.trans (congrArg some (by kernel_rfl))
  f35 := Try.func101.trans (congrArg some (by kernel_rfl))
  f39 := Try.func103.trans (congrArg some (by kernel_rfl))
  t0 := Try.underlying0
  a0 := Try.isAgg0
  z0 := Try.sizeOf0
  v0 := Try.zeroValue0
  t3 := Try.underlying3
  a3 := Try.isAgg3
  z3 := Try.sizeOf3
  v3 := Try.zeroValue3
  t4 := Try.underlying4
  a4 := Try.isAgg4
  z4 := Try.sizeOf4
  v4 := Try.zeroValue4
  t22 := Try.underlying22
  a22 := Try.isAgg22
  z22 := Try.sizeOf22
  v22 := Try.zeroValue22
  i3 := by kernel_rfl }
end Go.Proofs.Ytjkhpbngpceenaa
