/- 'told': the queue tells just what the reference's has. -/
import Derived.Test.YtfnabpmdjfejbaaQTells
import Derived.Test.YtfnabpmdjfejbaaQDone
import Derived.Test.YtfnabpmdjfejbaaQRefG
import Derived.Test.YtfnabpmdjfejbaaRefRis
namespace Go.Proofs.Ytfnabpmdjfejbaa
set_option linter.unusedSimpArgs false
set_option linter.unusedVariables false
open Go.RowKit Go.Lib

/-- The queue and the reference's have the same. -/
structure Tells (st : QSt) (x : RQ) : Prop where
  line : x.line = kys (st.front.reverse ++ st.back)
  busy : ∀ p, p ∈ x.busy ↔ p ∈ kys st.busy
  dirty : ∀ p, p ∈ x.dirty ↔ p ∈ kys st.dirty
  over : x.over = st.over
structure QSt.small (st : QSt) (n : Nat) : Prop where
  l : st.front.length + st.back.length ≤ n
  b : st.busy.length ≤ n
  d : st.dirty.length ≤ n
theorem risL_congr {l m : List Ky} (h : ∀ p, p ∈ l ↔ p ∈ m) : risL l = risL m :=
  pair_unique (risL_pair l) (risL_pair m) (fun y => by rw [mem_risL, mem_risL, h])
theorem kys_ok {l : List KO} {p : Ky} (h : p ∈ kys l) : p.ok := by
  obtain ⟨q, _, rfl⟩ := List.mem_map.1 h
  exact q.2
theorem same_self {l m : List Ky} (h : l = m) : sameK l m = true := by simp [sameK, h]
theorem keysIn_own {w : World} {base : Nat} {e : TypeId} {v : Value} {l : List Ky} (h : w.ownsRow base e 2 v l.length (cellsOfRow keyC l)) : KeysIn w v l := KeysIn.own h

end Go.Proofs.Ytfnabpmdjfejbaa
