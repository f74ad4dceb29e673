/- Contracts of the shelf, laid at this program (by lay-plain.mjs; numbers by name). -/
import Derived.Test.YtfnabpmdjfejbaaBase
import Derived.Shelf.SlicesQ.Reverse
namespace Go.Proofs.Ytfnabpmdjfejbaa
set_option linter.unusedSimpArgs false
set_option linter.unusedVariables false
open Go.Shelf
def revK_ren : Go.Shelf.Ren := ⟨fun | 35 => 120 | n => n, fun | 22 => 24 | 23 => 32 | 3 => 3 | 4 => 4 | 0 => 0 | n => n, fun | n => n⟩
theorem revK : Go.Proofs.SlLaysE0.n35 Try.prog revK_ren := {
  mixed := by kernel_rfl
  f35 := ⟨Try.f120.name, by decide, Try.func120.trans (congrArg some (by kernel_rfl))⟩
  t0 := Try.underlying0
  a0 := Try.isAgg0
  z0 := Try.sizeOf0
  v0 := Try.zeroValue0
  t3 := Try.underlying3
  a3 := Try.isAgg3
  z3 := Try.sizeOf3
  v3 := Try.zeroValue3
  t4 := Try.underlying4
  a4 := Try.isAgg4
  z4 := Try.sizeOf4
  v4 := Try.zeroValue4
  t22 := Try.underlying24
  a22 := Try.isAgg24
  z22 := Try.sizeOf24
  v22 := Try.zeroValue24 }
end Go.Proofs.Ytfnabpmdjfejbaa
