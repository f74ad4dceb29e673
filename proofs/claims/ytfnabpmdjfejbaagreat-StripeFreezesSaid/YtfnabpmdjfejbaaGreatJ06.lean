/- A row of the call's own under the shelf's words for sorting and turning: HoldsK, putRowK. -/
import Derived.Test.YtfnabpmdjfejbaaGreatJ02
import Derived.Shelf.GgSortFunc.RowK
import Derived.Sort.Grow
namespace Go.Proofs.YtfnabpmdjfejbaaGreat

section
set_option linter.unusedSimpArgs false
set_option linter.unusedVariables false
open Go.RowKit Go.Lib Go.Sort

section
variable {α : Type} [Inhabited α] {f : α → List Value} {n : Nat}

theorem flat_row (hf : ∀ x, (f x).length = n) (hn : 0 < n) (l : List α) : flatK f n l.toArray = (cellsOfRow f l).toArray := by
  refine ext_get! (by simp [cellsOfRow_len hf]) fun t ht => ?_
  have ht' : t < l.length * n := by simpa using ht
  rw [get_flatK _ _ _ t (by simpa using ht')]
  have hk : t / n < l.length := by rw [Nat.div_lt_iff_lt_mul hn]; exact ht'
  have hm : t % n < (f l[t / n]).length := by rw [hf]; exact Nat.mod_lt _ hn
  have hlt : t < (cellsOfRow f l).length := by rw [cellsOfRow_len hf]; exact ht'
  have h := cellsOfRow_at hf l (t / n) l[t / n] (List.getElem?_eq_getElem hk) (t % n) _ (List.getElem?_eq_getElem hm)
  rw [show t / n * n + t % n = t by rw [Nat.mul_comm]; exact Nat.div_add_mod t n] at h
  have e1 : (cellsOfRow f l).toArray[t]! = (f l[t / n])[t % n] := by
    rw [getElem!_pos _ t (by simpa using hlt)]
    have := (List.getElem?_eq_some_iff.1 h).2
    simpa using this
  rw [e1]
  have e2 : l.toArray[t / n]! = l[t / n] := by rw [getElem!_pos _ _ (by simpa using hk)]; simp
  rw [e2]
  exact getElem!_pos (f l[t / n]) (t % n) hm

theorem holdsK_own (hf : ∀ x, (f x).length = n) (hn : 0 < n) {w : World} {base g cap : Nat} {e : TypeId} {l : List α} (h : w.ownsRow base e n (.slice (some ⟨g, 0, none⟩) l.length cap) l.length (cellsOfRow f l)) :
    HoldsK f n w g 0 l.toArray := by
  unfold HoldsK
  rw [flat_row hf hn]
  intro j hj
  have hj' : j < (cellsOfRow f l).length := by simpa using hj
  have hjl := hj'
  rw [cellsOfRow_len hf] at hjl
  have hc := h.cellAt j hjl
  rcases h.2 with ⟨hv, _⟩ | ⟨g', cap', cur, hv, _, hg, _⟩
  · cases hv
  · injection hv with e1 e2 e3
    injection e1 with e1
    injection e1 with e1
    subst e1
    refine ⟨?_, Go.Joins.unfrozen_of_block hg (0 + j)⟩
    rw [Nat.zero_add, hc, List.getElem?_eq_getElem hj', getElem!_pos _ j hj]
    simp

theorem take_put (F : List Value) (c : Array Value) (h : F.length ≤ c.size) : (putCells id 0 F.toArray c).toList.take F.length = F := by
  apply List.ext_getElem?
  intro i
  rw [List.getElem?_take]
  by_cases hi : i < F.length
  · rw [if_pos hi, Array.getElem?_toList, putCells, Array.getElem?_mapIdx, Array.getElem?_eq_getElem (by omega), Option.map_some, if_pos ⟨Nat.zero_le _, by simpa using hi⟩, Nat.sub_zero, List.getElem?_eq_getElem hi]
    simp [hi]
  · rw [if_neg hi, List.getElem?_eq_none (by omega)]

theorem putRow_heap {w : World} {g : Nat} {cur : Array Value} {e : TypeId} {fr : Nat × Nat} (F : Array Value) (hb : w.heap[g]? = some (.cells cur e fr)) :
    (putRow id w g 0 F).heap[g]? = some (.cells (putCells id 0 F cur) e fr) := by
  simp only [putRow, mapBlock, Array.getElem?_modify, if_pos]
  rw [hb]
  rfl
theorem putRow_other {w : World} {g k : Nat} (F : Array Value) (h : k ≠ g) : (putRow id w g 0 F).heap[k]? = w.heap[k]? := by
  simp only [putRow, mapBlock, Array.getElem?_modify, if_neg (Ne.symm h)]

/-- Behind a turning: the same slice owns what was laid. -/
theorem own_putRowK (hf : ∀ x, (f x).length = n) (hn : 0 < n) {w : World} {base g cap k : Nat} {e : TypeId} {l m : List α} (h : w.ownsRow base e n (.slice (some ⟨g, 0, none⟩) l.length cap) l.length (cellsOfRow f l)) (hm : m.length = l.length) (os : Array Obj) :
    (grow (putRowK f n (Sort.ahead w k) g 0 m.toArray) os).ownsRow base e n (.slice (some ⟨g, 0, none⟩) m.length cap) m.length (cellsOfRow f m) ∧ w.grownBy (grow (putRowK f n (Sort.ahead w k) g 0 m.toArray) os) (some g) := by
  rcases h.2 with ⟨hv, _⟩ | ⟨g', cap', cur, hv, hbase, hg, h1, h2, h3, h4⟩
  · cases hv
  · injection hv with e1 e2 e3
    injection e1 with e1
    injection e1 with e1
    subst e1 e3
    have hglt : g < w.heap.size := (Array.getElem?_eq_some_iff.1 hg).1
    unfold putRowK
    rw [flat_row hf hn]
    have hsz : (putRow id (Sort.ahead w k) g 0 (cellsOfRow f m).toArray).heap.size = w.heap.size := by simp [putRow, mapBlock, Sort.ahead]
    have hblk : (grow (putRow id (Sort.ahead w k) g 0 (cellsOfRow f m).toArray) os).heap[g]? = some (.cells (putCells id 0 (cellsOfRow f m).toArray cur) e (0, 0)) := by
      rw [heap_grow_old _ _ (by rw [hsz]; exact hglt)]
      exact putRow_heap (w := Sort.ahead w k) _ hg
    have hle : (cellsOfRow f m).length ≤ cur.size := by
      rw [cellsOfRow_len hf, hm, h3]
      exact Nat.mul_le_mul_right _ h1
    refine ⟨⟨cellsOfRow_len hf m, .inr ⟨g, cap, _, rfl, hbase, hblk, by omega, h2, by simp [putCells, h3], ?_⟩⟩, ⟨rfl, rfl, rfl, by simp only [grow, Array.size_append, hsz]; omega, fun j hj hne => ?_⟩⟩
    · have := take_put (cellsOfRow f m) cur hle
      rwa [cellsOfRow_len hf] at this
    · rw [heap_grow_old _ _ (by rw [hsz]; exact hj)]
      exact putRow_other (w := Sort.ahead w k) _ (fun e => hne (by rw [e]))
end
end

end Go.Proofs.YtfnabpmdjfejbaaGreat
