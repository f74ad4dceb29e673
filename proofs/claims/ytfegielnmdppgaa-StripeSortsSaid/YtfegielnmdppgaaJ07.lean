/- The stable order: insertion of blocks whose places rise; what comes of it is core's mergeSort; Contracts of the shelf, laid at this program (by lay-plain.mjs; numbers by name). -/
import Derived.Test.YtfegielnmdppgaaJ06
import Derived.Test.YtfegielnmdppgaaJ01
import Derived.Shelf.SlSortCmp.NoneTotal
namespace Go.Proofs.Ytfegielnmdppgaa

section
set_option linter.unusedSimpArgs false
set_option linter.unusedVariables false
open Go.Sort

section
variable {α : Type} (lt : α → α → Bool)
def leS (x y : α) : Bool := !lt y x
/-- Less, whatever the places. -/
def ltP (x y : α × Nat) : Bool := lt x.1 y.1
/-- Less, those alike by their places. -/
def ltZ (x y : α × Nat) : Bool := !List.zipIdxLE (leS lt) y x
def RZ (x y : α × Nat) : Prop := List.zipIdxLE (leS lt) x y = true
variable {lt}
theorem leS_trans (h : SWO lt) (a b c : α) (h1 : leS lt a b = true) (h2 : leS lt b c = true) : leS lt a c = true := by
  unfold leS at *
  simp only [Bool.not_eq_true'] at *
  exact h.ntrans _ _ _ h2 h1
theorem leS_total (h : SWO lt) (a b : α) : (leS lt a b || leS lt b a) = true := by
  unfold leS
  cases h1 : lt b a with
  | false => rfl
  | true => rw [h.asymmA h1]; rfl
theorem RZ_trans (h : SWO lt) (x y z : α × Nat) (h1 : RZ lt x y) (h2 : RZ lt y z) : RZ lt x z := List.zipIdxLE_trans (leS_trans h) x y z h1 h2
theorem RZ_total (h : SWO lt) (x y : α × Nat) : RZ lt x y ∨ RZ lt y x := by
  have := List.zipIdxLE_total (leS_total h) x y
  simpa [RZ] using this
theorem swo_ltZ (h : SWO lt) : SWO (ltZ lt) := by
  refine ⟨fun x => ?_, fun x y z h1 h2 => ?_, fun x y z h1 h2 => ?_⟩
  · unfold ltZ
    rcases RZ_total h x x with k | k <;> (unfold RZ at k; rw [k]; rfl)
  · unfold ltZ at *
    simp only [Bool.not_eq_true'] at *
    cases k : List.zipIdxLE (leS lt) z x with
    | false => rfl
    | true =>
      rcases RZ_total h x y with k2 | k2
      · have := RZ_trans h z x y k k2
        unfold RZ at this; rw [this] at h2; cases h2
      · unfold RZ at k2; rw [k2] at h1; cases h1
  · unfold ltZ at *
    simp only [Bool.not_eq_false'] at *
    exact RZ_trans h z y x h2 h1
theorem ltZ_of {x y : α × Nat} (h : y.2 < x.2) : ltP lt x y = ltZ lt x y := by
  unfold ltP ltZ List.zipIdxLE leS
  cases h1 : lt x.1 y.1 <;> cases h2 : lt y.1 x.1 <;> simp <;> omega
theorem RZ_of_lt (h : SWO lt) {x y : α × Nat} (h1 : ltP lt x y = true) : RZ lt x y := by
  unfold ltP at h1
  unfold RZ List.zipIdxLE leS
  rw [h1, h.asymmA h1]; simp
theorem RZ_of_not {x y : α × Nat} (h1 : ltP lt y x = false) (h2 : x.2 ≤ y.2) : RZ lt x y := by
  unfold ltP at h1
  unfold RZ List.zipIdxLE leS
  rw [h1]
  simp only [Bool.not_false, if_true]
  split <;> simp [h2]
theorem ordZ (h : SWO lt) : Ord (ltP lt) (RZ lt) := ⟨RZ_trans h, fun x y => RZ_of_lt h⟩
/-- A list with its places, as a row. -/
def zipA (l : List α) : Array (α × Nat) := l.zipIdx.toArray
theorem zipA_size (l : List α) : (zipA l).size = l.length := by simp [zipA]
end

section
variable {α : Type} [Inhabited α] {lt : α → α → Bool}
theorem up_of_sorted {a b : Nat} {d : Array (α × Nat)} (h : SortedIn (ltZ lt) a b d) : Up (RZ lt) a b d := by
  intro i j h1 h2 h3
  have := h i j h1 h2 h3
  unfold ltZ at this
  simpa [RZ] using this
/-- Places rise. -/
def Rise (a b : Nat) (d : Array (α × Nat)) : Prop := ∀ i j, a ≤ i → i < j → j < b → (d[i]!).2 < (d[j]!).2
theorem insInner_same (a : Nat) : ∀ (j : Nat) (d : Array (α × Nat)), (∀ t, a ≤ t → t < j → (d[t]!).2 < (d[j]!).2) → j < d.size → insInner (ltP lt) a j d = insInner (ltZ lt) a j d
  | 0, d, _, _ => rfl
  | j + 1, d, hd, hj => by
    unfold insInner
    by_cases h : j + 1 > a
    · rw [ltZ_of (hd j (by omega) (by omega)), insInner_same a j (swp d (j + 1) j) (fun t h1 h2 => by
        rw [swp_right d _ _ (by omega), swp_other d _ _ _ (by omega) (by omega)]; exact hd t h1 (by omega)) (by rw [size_swp]; omega)]
    · rw [if_neg (by simp [h]), if_neg (by simp [h])]
theorem insInner_perm (l : α × Nat → α × Nat → Bool) (a b : Nat) : ∀ (j : Nat) (d : Array (α × Nat)), a ≤ j → j < b → b ≤ d.size → PermIn a b d (insInner l a j d)
  | 0, d, _, _, _ => by unfold insInner; exact permIn_refl d a b
  | j + 1, d, h1, h2, h3 => by
    unfold insInner
    split
    · rename_i hc
      simp only [Bool.and_eq_true, decide_eq_true_eq] at hc
      exact permIn_trans _ _ _ a b (swp_permIn d a b (j + 1) j (by omega) (by omega) (by omega) (by omega) h3) (insInner_perm l a b j _ (by omega) (by omega) (by rw [size_swp]; exact h3))
    · exact permIn_refl d a b
theorem insOuter_same (a b : Nat) : ∀ (n i : Nat) (d : Array (α × Nat)), b - i = n → a < i → b ≤ d.size → (∀ t u, a ≤ t → t < u → i ≤ u → u < b → (d[t]!).2 < (d[u]!).2) → insOuter (ltP lt) a b i d = insOuter (ltZ lt) a b i d
  | 0, i, d, hn, _, _, _ => by
    rw [insOuter, if_neg (by omega), insOuter, if_neg (by omega)]
  | n + 1, i, d, hn, hai, hb, hd => by
    have hi : i < b := by omega
    rw [insOuter, if_pos hi, insInner_same a i d (fun t h1 h2 => hd t i h1 h2 (Nat.le_refl _) hi) (by omega)]
    conv => rhs; rw [insOuter, if_pos hi]
    have hp := insInner_perm (ltZ lt) a (i + 1) i d (by omega) (by omega) (by omega)
    refine insOuter_same a b n (i + 1) _ (by omega) (by omega) (by rw [hp.1]; exact hb) ?_
    intro t u h1 h2 h3 h4
    rw [at_out hp (i := u) (Or.inr h3)]
    by_cases h5 : t < i + 1
    · exact permIn_all d _ a (i + 1) (fun x => x.2 < (d[u]!).2) (by omega) hp (fun s p q => hd s u p (by omega) (by omega) h4) t h1 h5
    · rw [at_out hp (i := t) (Or.inr (by omega))]
      exact hd t u h1 h2 (by omega) h4
theorem ins_block (h : SWO lt) {a b : Nat} {d : Array (α × Nat)} (hab : a ≤ b) (hb : b ≤ d.size) (hr : Rise a b d) :
    PermIn a b d (insertionSort (ltP lt) d a b) ∧ Up (RZ lt) a b (insertionSort (ltP lt) d a b) := by
  have e : insertionSort (ltP lt) d a b = insertionSort (ltZ lt) d a b := insOuter_same a b _ (a + 1) d rfl (by omega) hb (fun t u h1 h2 h3 h4 => hr t u h1 h2 h4)
  rw [e]
  obtain ⟨h1, h2⟩ := insertionSort_holds (swo_ltZ h) d a b hab hb
  exact ⟨h1, up_of_sorted h2⟩
theorem crs_of {a m b : Nat} {d : Array (α × Nat)} (h : ∀ i j, a ≤ i → i < m → m ≤ j → j < b → (d[i]!).2 ≤ (d[j]!).2) : Crs (ltP lt) (RZ lt) a m b d :=
  fun i j h1 h2 h3 h4 h5 => RZ_of_not h5 (h i j h1 h2 h3 h4)
theorem zipA_at (l : List α) (i : Nat) (h : i < l.length) : (zipA l)[i]! = (l[i], i) := by
  unfold zipA
  rw [getElem!_pos _ i (by simpa using h)]
  simp
theorem zipA_rise (l : List α) (a b : Nat) (h : b ≤ l.length) : Rise a b (zipA l) := by
  intro i j h1 h2 h3
  rw [zipA_at l i (by omega), zipA_at l j (by omega)]
  exact h2
/-- What is sorted so is core's mergeSort. -/
theorem stable_end (h : SWO lt) (l : List α) (d : Array (α × Nat)) (hp : PermIn 0 l.length (zipA l) d) (hu : Up (RZ lt) 0 l.length d) : d.toList.map (·.1) = l.mergeSort (leS lt) := by
  have hsz : d.size = l.length := by rw [hp.1, zipA_size]
  have hperm : d.toList.Perm l.zipIdx := by
    have h1 := hp.2.2
    rw [← hsz, Array.extract_size] at h1
    have h2 : (zipA l).extract 0 d.size = zipA l := by rw [hsz, ← zipA_size l, Array.extract_size]
    rw [h2] at h1
    simpa [zipA] using h1
  have e : d.toList = l.zipIdx.mergeSort (List.zipIdxLE (leS lt)) := by
    refine List.Perm.eq_of_pairwise (le := fun x y => List.zipIdxLE (leS lt) x y = true) ?_ ?_ (List.pairwise_mergeSort (List.zipIdxLE_trans (leS_trans h)) (List.zipIdxLE_total (leS_total h)) _) (hperm.trans (List.mergeSort_perm _ _).symm)
    · rintro ⟨a, i⟩ ⟨b, j⟩ ha hb h1 h2
      have ha := hperm.mem_iff.1 ha
      rw [List.mem_mergeSort] at hb
      have hij : i = j := by
        unfold List.zipIdxLE at h1 h2
        revert h1 h2
        cases leS lt a b <;> cases leS lt b a <;> simp <;> omega
      subst hij
      have ka := List.mem_zipIdx ha
      have kb := List.mem_zipIdx hb
      simp only [Prod.mk.injEq, and_true]
      rw [ka.2.2, kb.2.2]
    · rw [List.pairwise_iff_getElem]
      intro i j hi hj hij
      have := hu i j (Nat.zero_le _) hij (by simpa [hsz] using hj)
      rw [getElem!_pos d i (by simpa using hi), getElem!_pos d j (by simpa using hj)] at this
      simpa [RZ] using this
  rw [e]
  exact List.mergeSort_zipIdx
end
end

section
set_option linter.unusedSimpArgs false
set_option linter.unusedVariables false
open Go.Shelf
def sortK_ren : Go.Shelf.Ren := ⟨fun | 6 => 52 | 15 => 59 | 14 => 58 | 28 => 70 | 29 => 71 | 20 => 62 | 21 => 63 | 22 => 64 | 23 => 65 | 24 => 66 | 25 => 67 | 26 => 68 | 27 => 69 | 46 => 72 | 47 => 73 | 48 => 74 | 49 => 75 | 50 => 76 | 57 => 77 | n => n, fun | 22 => 22 | 24 => 27 | 25 => 60 | 3 => 3 | 39 => 107 | 0 => 0 | 53 => 121 | 55 => 25 | 4 => 4 | 46 => 114 | 45 => 113 | 50 => 118 | 5 => 5 | 9 => 9 | 66 => 123 | 70 => 127 | 76 => 129 | 77 => 130 | n => n, fun | n => n⟩
theorem sortK : Go.Proofs.SlLaysF0.n6 Try.prog sortK_ren := {
  mixed := by kernel_rfl
  f6 := ⟨Try.f52.name, by decide, Try.func52.trans (congrArg some (by kernel_rfl))⟩
  f14 := ⟨Try.f58.name, by decide, Try.func58.trans (congrArg some (by kernel_rfl))⟩
  f15 := Try.func59.trans (congrArg some (by kernel_rfl))
  f20 := ⟨Try.f62.name, by decide, Try.func62.trans (congrArg some (by kernel_rfl))⟩
  f21 := ⟨Try.f63.name, by decide, Try.func63.trans (congrArg some (by kernel_rfl))⟩
  f22 := ⟨Try.f64.name, by decide, Try.func64.trans (congrArg some (by kernel_rfl))⟩
  f23 := ⟨Try.f65.name, by decide, Try.func65.trans (congrArg some (by kernel_rfl))⟩
  f24 := ⟨Try.f66.name, by decide, Try.func66.trans (congrArg some (by kernel_rfl))⟩
  f25 := ⟨Try.f67.name, by decide, Try.func67.trans (congrArg some (by kernel_rfl))⟩
  f26 := ⟨Try.f68.name, by decide, Try.func68.trans (congrArg some (by kernel_rfl))⟩
  f27 := ⟨Try.f69.name, by decide, Try.func69.trans (congrArg some (by kernel_rfl))⟩
  f28 := Try.func70.trans (congrArg some (by kernel_rfl))
  f29 := Try.func71.trans (congrArg some (by kernel_rfl))
  f46 := ⟨Try.f72.name, by decide, Try.func72.trans (congrArg some (by kernel_rfl))⟩
  f47 := Try.func73.trans (congrArg some (by kernel_rfl))
  f48 := Try.func74.trans (congrArg some (by kernel_rfl))
  f49 := ⟨Try.f75.name, by decide, Try.func75.trans (congrArg some (by kernel_rfl))⟩
  f50 := ⟨Try.f76.name, by decide, Try.func76.trans (congrArg some (by kernel_rfl))⟩
  f57 := ⟨Try.f77.name, by decide, Try.func77.trans (congrArg some (by kernel_rfl))⟩
  t0 := Try.underlying0
  a0 := Try.isAgg0
  z0 := Try.sizeOf0
  v0 := Try.zeroValue0
  t3 := Try.underlying3
  a3 := Try.isAgg3
  z3 := Try.sizeOf3
  v3 := Try.zeroValue3
  t4 := Try.underlying4
  a4 := Try.isAgg4
  z4 := Try.sizeOf4
  v4 := Try.zeroValue4
  t5 := Try.underlying5
  a5 := Try.isAgg5
  z5 := Try.sizeOf5
  v5 := Try.zeroValue5
  t9 := Try.underlying9
  a9 := Try.isAgg9
  z9 := Try.sizeOf9
  v9 := Try.zeroValue9
  t22 := Try.underlying22
  a22 := Try.isAgg22
  z22 := Try.sizeOf22
  v22 := Try.zeroValue22
  t25 := Try.underlying60
  a25 := Try.isAgg60
  z25 := Try.sizeOf60
  v25 := Try.zeroValue60
  t39 := Try.underlying107
  a39 := Try.isAgg107
  z39 := Try.sizeOf107
  v39 := Try.zeroValue107
  t45 := Try.underlying113
  a45 := Try.isAgg113
  z45 := Try.sizeOf113
  v45 := Try.zeroValue113
  t46 := Try.underlying114
  a46 := Try.isAgg114
  z46 := Try.sizeOf114
  v46 := Try.zeroValue114
  t50 := Try.underlying118
  a50 := Try.isAgg118
  z50 := Try.sizeOf118
  v50 := Try.zeroValue118
  t53 := Try.underlying121
  a53 := Try.isAgg121
  z53 := Try.sizeOf121
  v53 := Try.zeroValue121
  t55 := Try.underlying25
  a55 := Try.isAgg25
  z55 := Try.sizeOf25
  v55 := Try.zeroValue25
  t66 := Try.underlying123
  a66 := Try.isAgg123
  z66 := Try.sizeOf123
  v66 := Try.zeroValue123
  t70 := Try.underlying127
  a70 := Try.isAgg127
  z70 := Try.sizeOf127
  v70 := Try.zeroValue127
  t76 := Try.underlying129
  a76 := Try.isAgg129
  z76 := Try.sizeOf129
  v76 := Try.zeroValue129
  t77 := Try.underlying130
  a77 := Try.isAgg130
  z77 := Try.sizeOf130
  v77 := Try.zeroValue130 }
end

end Go.Proofs.Ytfegielnmdppgaa
