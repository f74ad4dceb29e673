/- Entries in order, and where each stood; Contracts of the shelf, laid at this program (by lay-plain.mjs; numbers by name). -/
import Derived.Test.YtfegielnmdppgaaJ14
import Derived.Test.YtfegielnmdppgaaJ15
import Derived.Test.YtfegielnmdppgaaJ01
import Derived.Shelf.SlicesQ.Reverse
namespace Go.Proofs.Ytfegielnmdppgaa

section
set_option linter.unusedSimpArgs false
set_option linter.unusedVariables false
open Go.RowKit Go.Lib Go.Sort

/-- Where the i-th one of what is in order stood. -/
def plZ (l : List En) : List (En × Nat) := l.zipIdx.mergeSort (List.zipIdxLE (leS ltE))
theorem plZ_fst (l : List En) : (plZ l).map (·.1) = sortEn l := List.mergeSort_zipIdx
theorem plZ_len (l : List En) : (plZ l).length = l.length := by simp [plZ]
theorem plZ_mem {l : List En} {i : Nat} (h : i < (plZ l).length) : l[((plZ l)[i]).2]? = some ((plZ l)[i]).1 := by
  have hm : (plZ l)[i] ∈ l.zipIdx := List.mem_mergeSort.1 (List.getElem_mem h)
  generalize (plZ l)[i] = z at hm ⊢
  obtain ⟨x, p⟩ := z
  have := List.mem_zipIdx hm
  simp only [Nat.zero_add, Nat.sub_zero] at this
  rw [List.getElem?_eq_getElem this.2.1, ← this.2.2]
theorem plZ_pair (l : List En) : (plZ l).Pairwise (fun x y => List.zipIdxLE (leS ltE) x y = true) :=
  List.pairwise_mergeSort (List.zipIdxLE_trans (leS_trans swoE)) (List.zipIdxLE_total (leS_total swoE)) _
theorem plZ_nodup (l : List En) : ((plZ l).map (·.2)).Nodup := by
  have h : ((plZ l).map (·.2)).Perm (l.zipIdx.map (·.2)) := (List.mergeSort_perm _ _).map _
  rw [h.nodup_iff, List.zipIdx_map_snd]
  exact List.nodup_range' _
theorem sortEn_at {l : List En} {i : Nat} (h : i < (sortEn l).length) (h2 : i < (plZ l).length) : (sortEn l)[i] = ((plZ l)[i]).1 := by
  have : (sortEn l)[i]? = ((plZ l)[i]?).map (·.1) := by rw [← plZ_fst, List.getElem?_map]
  rw [List.getElem?_eq_getElem h, List.getElem?_eq_getElem h2] at this
  exact Option.some.inj this
/-- Two that follow one another: the later one's key is not less; of alike keys the later one stood behind. -/
theorem plZ_next {l : List En} {i : Nat} (h : i + 1 < (plZ l).length) :
    ltK ((plZ l)[i + 1]).1.1 ((plZ l)[i]).1.1 = false ∧ (((plZ l)[i + 1]).1.1 = ((plZ l)[i]).1.1 → ((plZ l)[i]).2 < ((plZ l)[i + 1]).2) := by
  have hp := List.pairwise_iff_getElem.1 (plZ_pair l) i (i + 1) (by omega) h (by omega)
  have hn : ((plZ l)[i]).2 ≠ ((plZ l)[i + 1]).2 := by
    intro e
    have := nodup_inj (plZ_nodup l) (i := i) (j := i + 1) (x := ((plZ l)[i + 1]).2) (by rw [List.getElem?_map, List.getElem?_eq_getElem (by omega)]; simp [e]) (by rw [List.getElem?_map, List.getElem?_eq_getElem h]; rfl)
    omega
  unfold List.zipIdxLE leS ltE at hp
  constructor
  · cases hk : ltK ((plZ l)[i + 1]).1.1 ((plZ l)[i]).1.1 with
    | false => rfl
    | true => rw [hk] at hp; simp at hp
  · intro e
    rw [e, ltK_irrefl] at hp
    simp at hp
    omega
/-- Where each stood, and what follows what. -/
theorem sort_places (l : List En) : ∃ pf : Nat → Nat, (∀ i (h : i < (sortEn l).length), l[pf i]? = some (sortEn l)[i]) ∧
    ∀ j (h : j + 1 < (sortEn l).length), ltK ((sortEn l)[j + 1]).1 ((sortEn l)[j]).1 = false ∧ (((sortEn l)[j + 1]).1 = ((sortEn l)[j]).1 → pf j < pf (j + 1)) := by
  have hz : (plZ l).length = (sortEn l).length := by rw [plZ_len, sortEn_len]
  refine ⟨fun i => if h : i < (plZ l).length then ((plZ l)[i]).2 else 0, fun i h => ?_, fun j h => ?_⟩
  · have h2 : i < (plZ l).length := by omega
    simp only [dif_pos h2]
    rw [plZ_mem h2, sortEn_at h h2]
  · have h2 : j + 1 < (plZ l).length := by omega
    simp only [dif_pos h2, dif_pos (show j < (plZ l).length by omega)]
    rw [sortEn_at h h2, sortEn_at (show j < (sortEn l).length by omega) (by omega)]
    exact plZ_next h2
end

section
set_option linter.unusedSimpArgs false
set_option linter.unusedVariables false
open Go.Shelf
end

end Go.Proofs.Ytfegielnmdppgaa
