/- Keys in order, each once: the reference's way and the sorted one's are one; Small laws on rows of keys of the call's own. -/
import Derived.Test.YtfegielnmdppgaaJ03
import Derived.Lib.SlicesCompact
import Derived.Lib.SmallJoins
import Derived.Laws.AppendOwnNone
namespace Go.Proofs.Ytfegielnmdppgaa

section
set_option linter.unusedSimpArgs false
set_option linter.unusedVariables false
open Go.RowKit Go.Lib

theorem mem_insK (x y : Ky) : ∀ l : List Ky, y ∈ insK x l ↔ y = x ∨ y ∈ l
  | [] => by simp [insK]
  | a :: l => by
    rw [insK]
    split
    · rw [List.mem_cons, mem_insK x y l, List.mem_cons]
      constructor
      · rintro (h | h | h)
        · exact .inr (.inl h)
        · exact .inl h
        · exact .inr (.inr h)
      · rintro (h | h | h)
        · exact .inr (.inl h)
        · exact .inl h
        · exact .inr (.inr h)
    · split
      · rename_i h
        subst h
        simp
      · simp

theorem ins_pair (x : Ky) : ∀ l : List Ky, l.Pairwise (fun a b => ltK a b = true) → (insK x l).Pairwise (fun a b => ltK a b = true)
  | [], _ => by simp [insK]
  | a :: l, h => by
    rw [insK]
    rw [List.pairwise_cons] at h
    split
    · rename_i h1
      rw [List.pairwise_cons]
      refine ⟨fun y hy => ?_, ins_pair x l h.2⟩
      rcases (mem_insK x y l).1 hy with rfl | hy
      · exact h1
      · exact h.1 y hy
    · rename_i h1
      split
      · exact List.pairwise_cons.2 h
      · rename_i h2
        have h3 : ltK x a = true := by
          cases h4 : ltK x a with
          | true => rfl
          | false => exact absurd (ltK_total (by simpa using h1) h4) h2
        rw [List.pairwise_cons]
        refine ⟨fun y hy => ?_, List.pairwise_cons.2 h⟩
        rcases List.mem_cons.1 hy with rfl | hy
        · exact h3
        · exact ltK_trans h3 (h.1 y hy)

theorem foldl_ins (l : List Ky) : ∀ out : List Ky, out.Pairwise (fun a b => ltK a b = true) →
    (l.foldl (fun out x => insK x out) out).Pairwise (fun a b => ltK a b = true) ∧ ∀ y, y ∈ l.foldl (fun out x => insK x out) out ↔ y ∈ out ∨ y ∈ l := by
  induction l with
  | nil => intro out h; exact ⟨h, by simp⟩
  | cons a l ih =>
    intro out h
    obtain ⟨h1, h2⟩ := ih (insK a out) (ins_pair a out h)
    refine ⟨h1, fun y => ?_⟩
    rw [List.foldl_cons, h2, mem_insK, List.mem_cons]
    constructor
    · rintro ((h | h) | h)
      · exact .inr (.inl h)
      · exact .inl h
      · exact .inr (.inr h)
    · rintro (h | h | h)
      · exact .inl (.inr h)
      · exact .inl (.inl h)
      · exact .inr h

theorem risL_pair (l : List Ky) : (risL l).Pairwise (fun a b => ltK a b = true) := (foldl_ins l [] List.Pairwise.nil).1
theorem mem_risL (l : List Ky) (y : Ky) : y ∈ risL l ↔ y ∈ l := by simpa [risL] using (foldl_ins l [] List.Pairwise.nil).2 y
theorem len_insK (x : Ky) : ∀ l : List Ky, (insK x l).length ≤ l.length + 1
  | [] => by simp [insK]
  | a :: l => by
    have := len_insK x l
    rw [insK]
    split
    · simp; omega
    · split <;> simp
theorem len_foldl (l : List Ky) : ∀ out : List Ky, (l.foldl (fun out x => insK x out) out).length ≤ out.length + l.length := by
  induction l with
  | nil => intro out; simp
  | cons a l ih =>
    intro out
    have h1 := ih (insK a out)
    have h2 := len_insK a out
    simp only [List.foldl_cons, List.length_cons]
    omega
theorem len_risL (l : List Ky) : (risL l).length ≤ l.length := by simpa [risL] using len_foldl l []

/-- Two rising lists of the same keys are one. -/
theorem pair_unique : ∀ {l m : List Ky}, l.Pairwise (fun a b => ltK a b = true) → m.Pairwise (fun a b => ltK a b = true) → (∀ y, y ∈ l ↔ y ∈ m) → l = m
  | [], [], _, _, _ => rfl
  | [], b :: m, _, _, h => absurd ((h b).2 (by simp)) (by simp)
  | a :: l, [], _, _, h => absurd ((h a).1 (by simp)) (by simp)
  | a :: l, b :: m, h1, h2, h => by
    rw [List.pairwise_cons] at h1 h2
    have e : a = b := by
      have ha := (h a).1 (by simp)
      have hb := (h b).2 (by simp)
      rcases List.mem_cons.1 ha with e | ha
      · exact e
      · rcases List.mem_cons.1 hb with e | hb
        · exact e.symm
        · have := ltK_trans (h1.1 b hb) (h2.1 a ha)
          rw [ltK_irrefl] at this
          exact absurd this (by simp)
    subst e
    congr 1
    refine pair_unique h1.2 h2.2 fun y => ?_
    have hy := h y
    simp only [List.mem_cons] at hy
    constructor
    · intro hm
      rcases hy.1 (.inr hm) with rfl | hm'
      · have := h1.1 _ hm
        rw [ltK_irrefl] at this
        exact absurd this (by simp)
      · exact hm'
    · intro hm
      rcases hy.2 (.inr hm) with rfl | hm'
      · have := h2.1 _ hm
        rw [ltK_irrefl] at this
        exact absurd this (by simp)
      · exact hm'

/-- A sorted row, cut to what is kept of it. -/
theorem compact_pair (d : Array Ky) (hs : ∀ i j, i ≤ j → j < d.size → ltK d[j]! d[i]! = false) : (compactUpTo d d.size).Pairwise (fun a b => ltK a b = true) := by
  unfold compactUpTo
  rw [List.pairwise_map]
  refine (List.Pairwise.filter _ List.pairwise_lt_range).imp_of_mem ?_
  intro i j hi hj hij
  have hj2 := List.mem_filter.1 hj
  have hjn : j < d.size := List.mem_range.1 hj2.1
  have hk : j = 0 ∨ d[j]! ≠ d[j - 1]! := by simpa [keeps] using hj2.2
  have hne : d[j]! ≠ d[j - 1]! := hk.resolve_left (by omega)
  cases h : ltK d[i]! d[j]! with
  | true => rfl
  | false =>
    have h1 := hs i j (by omega) hjn
    have e := ltK_total h h1
    have h2 := hs i (j - 1) (by omega) (by omega)
    have h3 := hs (j - 1) j (by omega) hjn
    rw [e] at h2
    exact absurd (ltK_total h3 h2) (by exact fun e => hne e)
theorem mem_compact (d : Array Ky) : ∀ i, i < d.size → d[i]! ∈ compactUpTo d d.size := by
  intro i
  induction i with
  | zero =>
    intro h
    unfold compactUpTo
    exact List.mem_map.2 ⟨0, List.mem_filter.2 ⟨List.mem_range.2 h, by simp [keeps]⟩, rfl⟩
  | succ i ih =>
    intro h
    by_cases e : d[i + 1]! = d[i]!
    · rw [e]; exact ih (by omega)
    · unfold compactUpTo
      exact List.mem_map.2 ⟨i + 1, List.mem_filter.2 ⟨List.mem_range.2 h, by simp [keeps, e]⟩, rfl⟩
theorem compact_mem (d : Array Ky) (y : Ky) : y ∈ compactUpTo d d.size ↔ y ∈ d.toList := by
  constructor
  · intro h
    unfold compactUpTo at h
    obtain ⟨i, hi, rfl⟩ := List.mem_map.1 h
    have hn := List.mem_range.1 (List.mem_filter.1 hi).1
    rw [getElem!_pos d i hn]
    exact Array.getElem_mem_toList hn
  · intro h
    obtain ⟨i, hi, rfl⟩ := List.getElem_of_mem h
    have hn : i < d.size := by simpa using hi
    have := mem_compact d i hn
    rw [getElem!_pos d i hn] at this
    simpa using this

/-- Sorted, cut: as the reference has it. -/
theorem compact_sort (l : List Ky) : compactUpTo (l.mergeSort fun x y => !ltK y x).toArray (l.mergeSort fun x y => !ltK y x).toArray.size = risL l := by
  have hp : (l.mergeSort fun x y => !ltK y x).Pairwise (fun x y => (!ltK y x) = true) := by
    refine List.pairwise_mergeSort (fun a b c h1 h2 => ?_) (fun a b => ?_) l
    · simp only [Bool.not_eq_true'] at *
      cases h : ltK c a with
      | false => rfl
      | true =>
        cases h3 : ltK a b with
        | true => exact absurd (ltK_trans h h3) (by simp [h2])
        | false =>
          have := ltK_total h3 h1
          subst this
          rw [h2] at h
          exact absurd h (by simp)
    · cases h : ltK a b with
      | true => simp [ltK_asymm h]
      | false => simp
  have hl : (l.mergeSort fun x y => !ltK y x).length = l.length := List.length_mergeSort l
  refine pair_unique (compact_pair _ ?_) (risL_pair l) fun y => ?_
  · intro i j hij hj
    rcases Nat.lt_or_ge i j with h | h
    · have hj' : j < (l.mergeSort fun x y => !ltK y x).length := by simpa using hj
      have := List.pairwise_iff_getElem.1 hp i j (by omega) hj' h
      rw [getElem!_pos (l.mergeSort fun x y => !ltK y x).toArray j hj, getElem!_pos (l.mergeSort fun x y => !ltK y x).toArray i (by omega)]
      simpa using this
    · obtain rfl : i = j := by omega
      exact ltK_irrefl _
  · rw [compact_mem, mem_risL]
    simp
end

section
set_option linter.unusedSimpArgs false
set_option linter.unusedVariables false
open Go.RowKit Go.Lib

theorem key_info : (Try.prog.info? 27).map (fun i => (i.zero, i.size, i.bytes)) = some (some (.agg #[.int .u64 0, .int .u64 0]), 2, 16) := by kernel_rfl
theorem grown_below {B : Nat} {a b : World} {row : Option Nat} (h : a.grownBy b row) (hB : B ≤ a.heap.size) (hr : ∀ k, row = some k → B ≤ k) : Below B a b := (Below.refl B a).grown h hB hr
theorem own_lower {w : World} {base base' : Nat} {e : TypeId} {size : Nat} {v : Value} {n : Nat} {xs : List Value} (h : w.ownsRow base e size v n xs) (hb : base' ≤ base) : w.ownsRow base' e size v n xs := by
  refine ⟨h.1, ?_⟩
  rcases h.2 with hn | ⟨g, cap, cur, hv, hg, rest⟩
  · exact .inl hn
  · exact .inr ⟨g, cap, cur, hv, Nat.le_trans hb hg, rest⟩
end

end Go.Proofs.Ytfegielnmdppgaa
