/- The renaming under which this program holds the proved contract of slices.insertionSortCmpFunc over int, laid by names; no condition. -/
import Derived.Shelf.SlSortCmp.Insertion1
import Derived.Test.YtpakdddehianmaaProg
namespace Go.Proofs
open Go.Shelf
def Try.insL_ren : Go.Shelf.Ren := ⟨fun | 20 => 39 | n => n, fun | 0 => 0 | 3 => 3 | 4 => 4 | 22 => 24 | 24 => 3 | 25 => 36 | n => n, fun | n => n⟩
theorem Try.insL : Go.Proofs.SlLaysF.n20 Try.prog Try.insL_ren := {
  mixed := by kernel_rfl
  f20 := ⟨ "slices.insertionSortCmpFunc[int]", by decide, Try.func39.trans (congrArg some (by kernel_rfl))⟩
  t0 := Try.underlying0
  a0 := Try.isAgg0
  z0 := Try.sizeOf0
  v0 := Try.zeroValue0
  t3 := Try.underlying3
  a3 := Try.isAgg3
  z3 := Try.sizeOf3
  v3 := Try.zeroValue3
  t4 := Try.underlying4
  a4 := Try.isAgg4
  z4 := Try.sizeOf4
  v4 := Try.zeroValue4
  t22 := Try.underlying24
  a22 := Try.isAgg24
  z22 := Try.sizeOf24
  v22 := Try.zeroValue24
  a24 := Try.isAgg3
  z24 := Try.sizeOf3
  t25 := Try.underlying36
  a25 := Try.isAgg36
  z25 := Try.sizeOf36
  v25 := Try.zeroValue36 }
end Go.Proofs
