/- 'told', whatever the queue. -/
import Derived.Test.YtfnabpmdjfejbaaToldShut
import Derived.Test.YtfnabpmdjfejbaaToldOpen
namespace Go.Proofs.Ytfnabpmdjfejbaa
set_option linter.unusedSimpArgs false
set_option linter.unusedVariables false
open Go.RowKit Go.Lib

theorem told_any (P : Nat → Prop) (g o : Nat) (B : Nat → Prop) (st : QSt) (x : RQ) (vl vb vd : Value) (w : World) (h : QIn w g o st B) (hx : RQAt P w vl vb vd x) (ht : Tells st x) (hs : st.small 100000) (hs' : x.small 100000) :
    Calls Try.prog 21 #[.pointer (some ⟨g, o, none⟩), .agg #[vl, vb, vd, .bool x.over]] w fun e w' => e = .returned (.bool true) ∧ Below w.heap.size w w' := by
  cases ho : st.over with
  | false => exact told_open P g o B st x vl vb vd w h hx ht hs hs' ho
  | true =>
    by_cases hz : st.front.length + st.back.length = 0
    · exact told_empty P g o B st x vl vb vd w h hx ht hs hs' ho hz
    · exact told_shut P g o B st x vl vb vd w h hx ht hs hs' ho hz
end Go.Proofs.Ytfnabpmdjfejbaa
