/- The walk of ident's Cmp. -/
import Derived.Test.YtfnabpmdjfejbaaDoorBase
namespace Go.Proofs.YtfnabpmdjfejbaaDoor
set_option linter.unusedSimpArgs false
set_option linter.unusedVariables false
open Go.RowKit Go.Lib

def cmpI (a b c d : Nat) : Int := if a = c ∧ b = d then 0 else if a < c ∨ a = c ∧ b < d then -1 else 1

end Go.Proofs.YtfnabpmdjfejbaaDoor
