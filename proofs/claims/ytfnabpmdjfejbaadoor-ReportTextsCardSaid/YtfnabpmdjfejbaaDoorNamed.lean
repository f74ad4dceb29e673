/- A world gets a name. -/
import Derived.Test.YtfnabpmdjfejbaaDoorBase
namespace Go.Proofs.YtfnabpmdjfejbaaDoor
set_option linter.unusedSimpArgs false
set_option linter.unusedVariables false
open Go.RowKit Go.Lib

theorem calls_named {P : Program} {f : Nat} {args : Array Value} {w : World} {Q : Ending → World → Prop} (h : ∀ W, W = w → Calls P f args W Q) : Calls P f args w Q := h w rfl
theorem name_world {P : Program} {c : Code} {Q : Exit → Act → World → Prop} {a : Act} {w : World} (h : ∀ W, W = w → c.wp P Q a W) : c.wp P Q a w := h w rfl
theorem box_at {W w1 : World} (hb : Below W.heap.size W w1) {B : Nat} {cs : Array Value} {T : TypeId} (hB : W.heap[B]? = some (.cells cs T (0, 0))) : (∀ j, w1.cell? ⟨B, j, none⟩ = cs[j]?) ∧ (∀ j, w1.frozen? ⟨B, j, none⟩ = false) ∧ B < w1.heap.size ∧ w1.heap[B]? = some (.cells cs T (0, 0)) := by
  obtain ⟨h1, h2, h3⟩ := box_cells hb hB
  exact ⟨h1, h2, h3, (hb.block B (Array.getElem?_eq_some_iff.1 hB).1).trans hB⟩
end Go.Proofs.YtfnabpmdjfejbaaDoor
