/- A whole row is stored into a block. -/
import Derived.Test.YtfnabpmdjfejbaaDoorNamed
namespace Go.Proofs.YtfnabpmdjfejbaaDoor
set_option linter.unusedSimpArgs false
set_option linter.unusedVariables false
open Go.RowKit Go.Lib

def stor (w : World) (B i : Nat) : List Value → World
  | [] => w
  | v :: vs => stor (w.setCell ⟨B, i, none⟩ v) B (i + 1) vs
theorem stor_one {w : World} {B i : Nat} {cs : Array Value} {T : TypeId} {fr : Nat × Nat} {v : Value} (h : w.heap[B]? = some (.cells cs T fr)) : (w.setCell ⟨B, i, none⟩ v).heap[B]? = some (.cells (cs.setIfInBounds i v) T fr) := by
  obtain ⟨hlt, hk⟩ := Array.getElem?_eq_some_iff.1 h
  show (w.heap.modify B _)[B]? = _
  rw [Array.getElem?_eq_getElem (by rw [Array.size_modify]; exact hlt), Array.getElem_modify_self, hk]
  simp
theorem stor_other {w : World} {B i k : Nat} {v : Value} (h : k ≠ B) : (w.setCell ⟨B, i, none⟩ v).heap[k]? = w.heap[k]? := by
  show (w.heap.modify B _)[k]? = _
  by_cases hk : k < w.heap.size
  · rw [Array.getElem?_eq_getElem (by rw [Array.size_modify]; exact hk), Array.getElem_modify_of_ne (Ne.symm h), Array.getElem?_eq_getElem hk]
  · rw [Array.getElem?_eq_none (by rw [Array.size_modify]; omega), Array.getElem?_eq_none (by omega)]
theorem stor_all : ∀ (vs : List Value) (w : World) (B i : Nat) (cs : Array Value) (T : TypeId), w.heap[B]? = some (.cells cs T (0, 0)) → cs.size = i + vs.length →
    (stor w B i vs).heap[B]? = some (.cells ((cs.toList.take i ++ vs).toArray) T (0, 0)) ∧ (∀ k, k ≠ B → (stor w B i vs).heap[k]? = w.heap[k]?) ∧ (stor w B i vs).heap.size = w.heap.size ∧ ∀ n, n ≤ B → Below n w (stor w B i vs) := by
  intro vs
  induction vs with
  | nil =>
    intro w B i cs T h hn
    refine ⟨?_, fun _ _ => rfl, rfl, fun n _ => Below.refl _ _⟩
    simp only [List.length_nil, Nat.add_zero] at hn
    rw [stor, h, List.append_nil, List.take_of_length_le (by simp; omega)]
  | cons v vs ih =>
    intro w B i cs T h hn
    simp only [List.length_cons] at hn
    have h1 := stor_one (i := i) (v := v) h
    obtain ⟨a1, a2, a3, a4⟩ := ih (w.setCell ⟨B, i, none⟩ v) B (i + 1) _ T h1 (by simp; omega)
    refine ⟨?_, fun k hk => (a2 k hk).trans (stor_other hk), a3.trans (by simp [World.setCell]), fun n hn => ((Below.refl _ _).setCell hn _).trans (a4 n hn)⟩
    rw [stor, a1]
    congr 3
    rw [Array.toList_setIfInBounds, List.take_add_one, List.take_set_of_le (Nat.le_refl _)]
    rw [List.getElem?_set_self (by simp; omega)]
    simp
theorem stor_at {w : World} {B : Nat} {cs : Array Value} {T : TypeId} (h : w.heap[B]? = some (.cells cs T (0, 0))) (vs : List Value) (hn : cs.size = vs.length) : ∀ W, W = stor w B 0 vs →
    W.heap[B]? = some (.cells vs.toArray T (0, 0)) ∧ (∀ k, k ≠ B → W.heap[k]? = w.heap[k]?) ∧ W.heap.size = w.heap.size ∧ ∀ n, n ≤ B → Below n w W := by
  rintro W rfl
  have := stor_all vs w B 0 cs T h (by omega)
  simpa using this
end Go.Proofs.YtfnabpmdjfejbaaDoor
