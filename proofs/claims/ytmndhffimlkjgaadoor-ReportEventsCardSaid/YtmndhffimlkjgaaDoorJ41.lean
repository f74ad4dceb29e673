/- The table of the library's numbers out of the row's condition; a world that meets it. -/
import Derived.Test.YtmndhffimlkjgaaDoorJ13
import Derived.LaidMore
import Derived.LaidLaws
import Derived.Stop.Joined
import Derived.Stop.LaidErr
namespace Go.Proofs.YtmndhffimlkjgaaDoor

section
set_option linter.unusedSimpArgs false
set_option linter.unusedVariables false
open Go.RowKit Go.Lib

theorem tab_of_laid {W : World} (h : laidMetH Tryd.prog Rows.reportEventsRow.laid W) : Tab W := by
  rw [MakeChecks.laidMetH_plain _ _ _ (by kernel_rfl)] at h
  have h3 : laidMet Tryd.prog [("internal/strconv.uint64pow10", tabData .u64 pow10Tab)] W := laidMet.tail (laidMet.tail h)
  exact tabIs_of_head (g := 0) (by kernel_rfl) (by kernel_rfl) Tryd.underlying128 Tryd.underlying38 (by kernel_rfl) (by kernel_rfl) h3

set_option maxRecDepth 100000 in
theorem door_met (os : Os) (args : Array Value) : laidMetH Tryd.prog Rows.reportEventsRow.laid ((World.doorLaid Tryd.prog 400 os).forCall (fun _ _ => 0) ⟨#[], args, []⟩).memory :=
  laidMetH_of_parts3 (fuel := 8) (laidMet_of_run' 8 (by kernel_rfl) (by kernel_rfl)) (by kernel_rfl) (by kernel_rfl)
end

end Go.Proofs.YtmndhffimlkjgaaDoor
