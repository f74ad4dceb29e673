/- Contracts of the shelf, laid at this program (by lay-plain.mjs; numbers by name). -/
import Derived.Test.YtfnabpmdjfejbaaBase
import Derived.Shelf.SlSorted.Search
namespace Go.Proofs.Ytfnabpmdjfejbaa
set_option linter.unusedSimpArgs false
set_option linter.unusedVariables false
open Go.Shelf
def searchS_ren : Go.Shelf.Ren := ⟨fun | 16 => 140 | n => n, fun | 3 => 3 | 35 => 168 | 4 => 4 | 38 => 160 | n => n, fun | n => n⟩
theorem searchS : Go.Proofs.SlLaysO.n16 Try.prog searchS_ren := {
  mixed := by kernel_rfl
  f16 := Try.func140.trans (congrArg some (by kernel_rfl))
  t3 := Try.underlying3
  a3 := Try.isAgg3
  z3 := Try.sizeOf3
  v3 := Try.zeroValue3
  t4 := Try.underlying4
  a4 := Try.isAgg4
  z4 := Try.sizeOf4
  v4 := Try.zeroValue4
  t35 := Try.underlying168
  a35 := Try.isAgg168
  z35 := Try.sizeOf168
  v35 := Try.zeroValue168
  t38 := Try.underlying160
  a38 := Try.isAgg160
  z38 := Try.sizeOf160
  v38 := Try.zeroValue160 }
end Go.Proofs.Ytfnabpmdjfejbaa
