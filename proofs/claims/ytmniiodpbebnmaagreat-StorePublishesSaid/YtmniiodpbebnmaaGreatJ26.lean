/- A stable merge in place, by rotations: the plain law; The stable order: insertion of blocks whose places rise; what comes of it is core's mergeSort. -/
import Derived.Sort.LotA
import Derived.Sort.Lot0
namespace Go.Proofs.YtmniiodpbebnmaaGreat

section
set_option linter.unusedSimpArgs false
set_option linter.unusedVariables false
open Go.Sort

section
variable {β : Type} [Inhabited β]

/-- Two neighbouring parts, [a, m) and [m, b), changed their places. -/
def Rot (d d' : Array β) (a m b : Nat) : Prop := ∀ t, d'[t]! = if t < a ∨ b ≤ t then d[t]! else if t < a + (b - m) then d[t + m - a]! else d[t - (b - m)]!
/-- Two parts of one length changed their places. -/
def Swr (d d' : Array β) (a b n : Nat) : Prop := ∀ t, d'[t]! = if a ≤ t ∧ t < a + n then d[b + (t - a)]! else if b ≤ t ∧ t < b + n then d[a + (t - b)]! else d[t]!
theorem at_eq (d : Array β) {i j : Nat} (h : i = j) : d[i]! = d[j]! := by rw [h]
theorem Swr.zero (d : Array β) (a b : Nat) : Swr d d a b 0 := by
  intro t
  rw [if_neg (by omega), if_neg (by omega)]
theorem Swr.step {d d1 : Array β} {a b n : Nat} (h : Swr d d1 a b n) (hab : a + n < b) (hb : b + n < d1.size) : Swr d (swp d1 (a + n) (b + n)) a b (n + 1) := by
  intro t
  by_cases h1 : t = a + n
  · subst h1
    rw [swp_left d1 _ _ (by omega) (by omega), h]
    repeat' split
    all_goals first | exact at_eq d (by omega) | (exfalso; omega)
  · by_cases h2 : t = b + n
    · subst h2
      rw [swp_right d1 _ _ (by omega), h]
      repeat' split
      all_goals first | exact at_eq d (by omega) | (exfalso; omega)
    · rw [swp_other d1 _ _ _ h1 h2, h]
      repeat' split
      all_goals first | exact at_eq d (by omega) | (exfalso; omega)
/-- Halves of one length: to rotate is to exchange them. -/
theorem Rot.half {d d' : Array β} {a m b : Nat} (h : Swr d d' a m (m - a)) (ham : a ≤ m) (hb : b - m = m - a) (hmb : m ≤ b) : Rot d d' a m b := by
  intro t
  rw [h]
  repeat' split
  all_goals first | exact at_eq d (by omega) | (exfalso; omega)
/-- The left part is longer: its head is exchanged with the right part. -/
theorem Rot.left {d d1 d2 : Array β} {m i j : Nat} (h : Swr d d1 (m - i) m j) (hi : i ≤ m) (hij : j < i) (h2 : Rot d1 d2 (m - (i - j)) m (m + j)) : Rot d d2 (m - i) m (m + j) := by
  intro t
  rw [h2]
  by_cases h1 : t < m - (i - j) ∨ m + j ≤ t
  · rw [if_pos h1, h]
    repeat' split
    all_goals first | exact at_eq d (by omega) | (exfalso; omega)
  · rw [if_neg h1]
    by_cases h4 : t < m - (i - j) + (m + j - m)
    · rw [if_pos h4, h]
      repeat' split
      all_goals first | exact at_eq d (by omega) | (exfalso; omega)
    · rw [if_neg h4, h]
      repeat' split
      all_goals first | exact at_eq d (by omega) | (exfalso; omega)
/-- The right part is longer: its tail is exchanged with the left part. -/
theorem Rot.right {d d1 d2 : Array β} {m i j : Nat} (h : Swr d d1 (m - i) (m + j - i) i) (hi : i ≤ m) (hij : i < j) (h2 : Rot d1 d2 (m - i) m (m + (j - i))) : Rot d d2 (m - i) m (m + j) := by
  intro t
  rw [h2]
  by_cases h1 : t < m - i ∨ m + (j - i) ≤ t
  · rw [if_pos h1, h]
    repeat' split
    all_goals first | exact at_eq d (by omega) | (exfalso; omega)
  · rw [if_neg h1]
    by_cases h4 : t < m - i + (m + (j - i) - m)
    · rw [if_pos h4, h]
      repeat' split
      all_goals first | exact at_eq d (by omega) | (exfalso; omega)
    · rw [if_neg h4, h]
      repeat' split
      all_goals first | exact at_eq d (by omega) | (exfalso; omega)
theorem Rot.none {d : Array β} {a m b : Nat} (h : m ≤ a ∨ b ≤ m) (h2 : a ≤ m ∧ m ≤ b) : Rot d d a m b := by
  intro t
  repeat' split
  all_goals first | exact at_eq d (by omega) | (exfalso; omega)
/-- One element goes up by one place more. -/
theorem Rot.up {d d1 : Array β} {a k : Nat} (h : Rot d d1 a (a + 1) (k + 1)) (hak : a ≤ k) (hk : k + 1 < d1.size) : Rot d (swp d1 k (k + 1)) a (a + 1) (k + 2) := by
  intro t
  by_cases h1 : t = k
  · subst h1
    rw [swp_left d1 _ _ (by omega) (by omega), h]
    repeat' split
    all_goals first | exact at_eq d (by omega) | (exfalso; omega)
  · by_cases h2 : t = k + 1
    · subst h2
      rw [swp_right d1 _ _ (by omega), h]
      repeat' split
      all_goals first | exact at_eq d (by omega) | (exfalso; omega)
    · rw [swp_other d1 _ _ _ h1 h2, h]
      repeat' split
      all_goals first | exact at_eq d (by omega) | (exfalso; omega)
/-- One element goes down by one place more. -/
theorem Rot.down {d d1 : Array β} {m k : Nat} (h : Rot d d1 (k + 1) m (m + 1)) (hkm : k < m) (hk : m < d1.size) : Rot d (swp d1 (k + 1) k) k m (m + 1) := by
  intro t
  by_cases h1 : t = k + 1
  · subst h1
    rw [swp_left d1 _ _ (by omega) (by omega), h]
    repeat' split
    all_goals first | exact at_eq d (by omega) | (exfalso; omega)
  · by_cases h2 : t = k
    · subst h2
      rw [swp_right d1 _ _ (by omega), h]
      repeat' split
      all_goals first | exact at_eq d (by omega) | (exfalso; omega)
    · rw [swp_other d1 _ _ _ h1 h2, h]
      repeat' split
      all_goals first | exact at_eq d (by omega) | (exfalso; omega)

variable (lt : β → β → Bool) (R : β → β → Prop)
/-- Rising, in order. -/
def Up (a b : Nat) (d : Array β) : Prop := ∀ i j, a ≤ i → i < j → j < b → R d[i]! d[j]!
/-- Of two parts: what is not less stands behind. -/
def Crs (a m b : Nat) (d : Array β) : Prop := ∀ i j, a ≤ i → i < m → m ≤ j → j < b → lt d[j]! d[i]! = false → R d[i]! d[j]!
structure Ord : Prop where
  tr : ∀ x y z, R x y → R y z → R x z
  lt : ∀ x y, lt x y = true → R x y

variable {lt R}
theorem Up.one {a b : Nat} {d : Array β} (h : b ≤ a + 1) : Up R a b d := fun i j h1 h2 h3 => absurd h3 (by omega)
theorem Up.join {a m b : Nat} {d : Array β} (h1 : Up R a m d) (h2 : Up R m b d) (h : ∀ i j, a ≤ i → i < m → m ≤ j → j < b → R d[i]! d[j]!) : Up R a b d := by
  intro i j hi hij hj
  by_cases h3 : j < m
  · exact h1 i j hi hij h3
  · by_cases h4 : m ≤ i
    · exact h2 i j h4 hij hj
    · exact h i j hi (by omega) (by omega) hj
theorem Up.le {a b : Nat} {d : Array β} (h : Up R a b d) {i j : Nat} (hi : a ≤ i) (hij : i ≤ j) (hj : j < b) {x : β} (O : Ord lt R) (hx : R d[j]! x) : R d[i]! x := by
  by_cases e : i = j
  · rw [e]; exact hx
  · exact O.tr _ _ _ (h i j hi (by omega) hj) hx
theorem Up.ge {a b : Nat} {d : Array β} (h : Up R a b d) {i j : Nat} (hi : a ≤ i) (hij : i ≤ j) (hj : j < b) {x : β} (O : Ord lt R) (hx : R x d[i]!) : R x d[j]! := by
  by_cases e : i = j
  · rw [← e]; exact hx
  · exact O.tr _ _ _ hx (h i j hi (by omega) hj)

/-- The least element of the left part alone is put into the right one. -/
theorem up_first (O : Ord lt R) {d d' : Array β} {a b i : Nat} (hi : a + 1 ≤ i) (hib : i ≤ b) (hu : Up R (a + 1) b d) (hc : Crs lt R a (a + 1) b d)
    (h1 : a + 1 < i → lt d[i - 1]! d[a]! = true) (h2 : i < b → lt d[i]! d[a]! = false) (hr : Rot d d' a (a + 1) i) : Up R a b d' := by
  intro s t hs hst ht
  rw [hr s, hr t]
  have lo : ∀ s, a + 1 ≤ s → s < i → R d[s]! d[a]! := fun s p q => hu.le (i := s) (j := i - 1) p (by omega) (by omega) O (O.lt _ _ (h1 (by omega)))
  have hi' : ∀ s, i ≤ s → s < b → R d[a]! d[s]! := fun s p q => hu.ge (i := i) (j := s) (by omega) p q O (hc a i (Nat.le_refl _) (by omega) (by omega) (by omega) (h2 (by omega)))
  by_cases p1 : s < a ∨ i ≤ s
  · rw [if_pos p1, if_pos (by omega)]
    exact hu s t (by omega) hst ht
  · rw [if_neg p1]
    by_cases p2 : s < a + (i - (a + 1))
    · rw [if_pos p2]
      by_cases p3 : t < a ∨ i ≤ t
      · rw [if_pos p3]
        exact hu _ _ (by omega) (by omega) ht
      · rw [if_neg p3]
        by_cases p4 : t < a + (i - (a + 1))
        · rw [if_pos p4]
          exact hu _ _ (by omega) (by omega) (by omega)
        · rw [if_neg p4, at_eq d (show t - (i - (a + 1)) = a by omega)]
          exact lo _ (by omega) (by omega)
    · rw [if_neg p2, at_eq d (show s - (i - (a + 1)) = a by omega)]
      rw [if_pos (show t < a ∨ i ≤ t by omega)]
      exact hi' t (by omega) ht
/-- The one element of the right part is put into the left one. -/
theorem up_last (O : Ord lt R) {d d' : Array β} {a m i : Nat} (hi : a ≤ i) (him : i ≤ m) (hu : Up R a m d) (hc : Crs lt R a m (m + 1) d)
    (h1 : a < i → lt d[m]! d[i - 1]! = false) (h2 : i < m → lt d[m]! d[i]! = true) (hr : Rot d d' i m (m + 1)) : Up R a (m + 1) d' := by
  intro s t hs hst ht
  rw [hr s, hr t]
  have lo : ∀ s, a ≤ s → s < i → R d[s]! d[m]! := fun s p q => hu.le (i := s) (j := i - 1) p (by omega) (by omega) O (hc (i - 1) m (by omega) (by omega) (Nat.le_refl _) (by omega) (h1 (by omega)))
  have hi' : ∀ s, i ≤ s → s < m → R d[m]! d[s]! := fun s p q => hu.ge (i := i) (j := s) (by omega) p q O (O.lt _ _ (h2 (by omega)))
  by_cases p1 : s < i ∨ m + 1 ≤ s
  · rw [if_pos p1]
    by_cases p2 : t < i ∨ m + 1 ≤ t
    · rw [if_pos p2]
      exact hu _ _ hs hst (by omega)
    · rw [if_neg p2]
      by_cases p3 : t < i + (m + 1 - m)
      · rw [if_pos p3, at_eq d (show t + m - i = m by omega)]
        exact lo _ hs (by omega)
      · rw [if_neg p3]
        exact hu _ _ hs (by omega) (by omega)
  · rw [if_neg p1, if_neg (show ¬ (t < i ∨ m + 1 ≤ t) by omega), if_neg (show ¬ t < i + (m + 1 - m) by omega)]
    by_cases p3 : s < i + (m + 1 - m)
    · rw [if_pos p3, at_eq d (show s + m - i = m by omega)]
      exact hi' _ (by omega) (by omega)
    · rw [if_neg p3]
      exact hu _ _ (by omega) (by omega) (by omega)

/-- What is behind the rotation: two merges that are apart. -/
structure Split (lt : β → β → Bool) (R : β → β → Prop) (d1 : Array β) (a start mid en b : Nat) : Prop where
  u1 : Up R a start d1
  u2 : Up R start mid d1
  u3 : Up R mid en d1
  u4 : Up R en b d1
  c1 : Crs lt R a start mid d1
  c2 : Crs lt R mid en b d1
  all : ∀ i j, a ≤ i → i < mid → mid ≤ j → j < b → R d1[i]! d1[j]!
theorem split_of (O : Ord lt R) {d d1 : Array β} {a m b mid start s0 r0 : Nat} (ham : a < m) (hmb : m < b) (hmid : mid = (a + b) / 2)
    (h0 : (mid < m ∧ s0 = mid + m - b ∧ r0 = mid) ∨ (m ≤ mid ∧ s0 = a ∧ r0 = m)) (hs : s0 ≤ start) (hr : start ≤ r0)
    (hu1 : Up R a m d) (hu2 : Up R m b d) (hc : Crs lt R a m b d)
    (h1 : s0 < start → lt d[mid + m - start]! d[start - 1]! = false) (h2 : start < r0 → lt d[mid + m - 1 - start]! d[start]! = true)
    (hrot : Rot d d1 start m (mid + m - start)) : Split lt R d1 a start mid (mid + m - start) b := by
  have g1 : start ≤ m := by omega
  have g2 : start ≤ mid := by omega
  have g3 : a ≤ start := by omega
  have g4 : mid + m - start ≤ b := by omega
  -- where each piece lies
  have q1 : ∀ t, t < start → d1[t]! = d[t]! := fun t ht => by rw [hrot, if_pos (by omega)]
  have q2 : ∀ t, start ≤ t → t < mid → d1[t]! = d[t + m - start]! := fun t p q => by rw [hrot, if_neg (by omega), if_pos (by omega)]
  have q3 : ∀ t, mid ≤ t → t < mid + m - start → d1[t]! = d[t + start - mid]! := fun t p q => by rw [hrot, if_neg (by omega), if_neg (by omega)]; exact at_eq d (by omega)
  have q4 : ∀ t, mid + m - start ≤ t → d1[t]! = d[t]! := fun t ht => by rw [hrot, if_pos (by omega)]
  refine ⟨?_, ?_, ?_, ?_, ?_, ?_, ?_⟩
  · intro i j p q r
    rw [q1 i (by omega), q1 j r]; exact hu1 i j p q (by omega)
  · intro i j p q r
    rw [q2 i p (by omega), q2 j (by omega) r]; exact hu2 _ _ (by omega) (by omega) (by omega)
  · intro i j p q r
    rw [q3 i p (by omega), q3 j (by omega) r]; exact hu1 _ _ (by omega) (by omega) (by omega)
  · intro i j p q r
    rw [q4 i p, q4 j (by omega)]; exact hu2 i j (by omega) q r
  · intro i j p q r s
    rw [q1 i q, q2 j r s]; exact hc i _ p (by omega) (by omega) (by omega)
  · intro i j p q r s
    rw [q3 i p q, q4 j r]; exact hc _ j (by omega) (by omega) (by omega) s
  · intro i j p q r s
    by_cases e1 : i < start
    · rw [q1 i e1]
      by_cases e2 : j < mid + m - start
      · rw [q3 j r e2]; exact hu1 _ _ p (by omega) (by omega)
      · rw [q4 j (by omega)]
        have hx : R d[start - 1]! d[mid + m - start]! := hc _ _ (by omega) (by omega) (by omega) (by omega) (h1 (by omega))
        exact hu1.le (i := i) (j := start - 1) p (by omega) (by omega) O (hu2.ge (i := mid + m - start) (j := j) (by omega) (by omega) s O hx)
    · rw [q2 i (by omega) q]
      by_cases e2 : j < mid + m - start
      · rw [q3 j r e2]
        have hx : R d[mid + m - 1 - start]! d[start]! := O.lt _ _ (h2 (by omega))
        exact hu2.le (i := i + m - start) (j := mid + m - 1 - start) (by omega) (by omega) (by omega) O (hu1.ge (i := start) (j := j + start - mid) (by omega) (by omega) (by omega) O hx)
      · rw [q4 j (by omega)]; exact hu2 _ _ (by omega) (by omega) s
theorem at_size {d d' : Array β} {a b : Nat} (h : PermIn a b d d') : d'.size = d.size := h.1
theorem at_out {d d' : Array β} {a b : Nat} (h : PermIn a b d d') {i : Nat} (hi : i < a ∨ b ≤ i) : d'[i]! = d[i]! := h.2.1 i hi
theorem Up.out {d d' : Array β} {a b x y : Nat} (h : PermIn x y d d') (hu : Up R a b d) (ho : b ≤ x ∨ y ≤ a) : Up R a b d' := fun i j p q r => by
  rw [at_out h (show i < x ∨ y ≤ i by omega), at_out h (show j < x ∨ y ≤ j by omega)]; exact hu i j p q r
theorem Crs.out {d d' : Array β} {a m b x y : Nat} (h : PermIn x y d d') (hu : Crs lt R a m b d) (ho : b ≤ x ∨ y ≤ a) (hamb : a ≤ m ∧ m ≤ b) : Crs lt R a m b d' := fun i j p q r s => by
  rw [at_out h (show i < x ∨ y ≤ i by omega), at_out h (show j < x ∨ y ≤ j by omega)]; exact hu i j p q r s
/-- Both merges done: all is in order. -/
theorem up_both {d1 d2 d3 : Array β} {a start mid en b : Nat} (S : Split lt R d1 a start mid en b) (hb : b ≤ d1.size) (ham : a ≤ mid) (hmb : mid ≤ b) (h2 : PermIn a mid d1 d2) (hu2 : Up R a mid d2) (h3 : PermIn mid b d2 d3) (hu3 : Up R mid b d3) : Up R a b d3 := by
  refine Up.join (hu2.out h3 (Or.inl (Nat.le_refl _))) hu3 ?_
  intro i j p q r s
  rw [at_out h3 (Or.inl q)]
  have k1 : ∀ j, mid ≤ j → j < b → R d2[i]! d2[j]! := fun j r s => by
    rw [at_out h2 (i := j) (Or.inr r)]
    exact permIn_all d1 d2 a mid (fun x => R x d1[j]!) (by omega) h2 (fun i p q => S.all i j p q r s) i p q
  exact permIn_all d2 d3 mid b (fun x => R d2[i]! x) (by rw [at_size h2]; exact hb) h3 (fun j r s => k1 j r s) j r s
end
end

section
set_option linter.unusedSimpArgs false
set_option linter.unusedVariables false
open Go.Sort

section
variable {α : Type} (lt : α → α → Bool)
def leS (x y : α) : Bool := !lt y x
/-- Less, whatever the places. -/
def ltP (x y : α × Nat) : Bool := lt x.1 y.1
/-- Less, those alike by their places. -/
def ltZ (x y : α × Nat) : Bool := !List.zipIdxLE (leS lt) y x
def RZ (x y : α × Nat) : Prop := List.zipIdxLE (leS lt) x y = true
variable {lt}
theorem leS_trans (h : SWO lt) (a b c : α) (h1 : leS lt a b = true) (h2 : leS lt b c = true) : leS lt a c = true := by
  unfold leS at *
  simp only [Bool.not_eq_true'] at *
  exact h.ntrans _ _ _ h2 h1
theorem leS_total (h : SWO lt) (a b : α) : (leS lt a b || leS lt b a) = true := by
  unfold leS
  cases h1 : lt b a with
  | false => rfl
  | true => rw [h.asymmA h1]; rfl
theorem RZ_trans (h : SWO lt) (x y z : α × Nat) (h1 : RZ lt x y) (h2 : RZ lt y z) : RZ lt x z := List.zipIdxLE_trans (leS_trans h) x y z h1 h2
theorem RZ_total (h : SWO lt) (x y : α × Nat) : RZ lt x y ∨ RZ lt y x := by
  have := List.zipIdxLE_total (leS_total h) x y
  simpa [RZ] using this
theorem swo_ltZ (h : SWO lt) : SWO (ltZ lt) := by
  refine ⟨fun x => ?_, fun x y z h1 h2 => ?_, fun x y z h1 h2 => ?_⟩
  · unfold ltZ
    rcases RZ_total h x x with k | k <;> (unfold RZ at k; rw [k]; rfl)
  · unfold ltZ at *
    simp only [Bool.not_eq_true'] at *
    cases k : List.zipIdxLE (leS lt) z x with
    | false => rfl
    | true =>
      rcases RZ_total h x y with k2 | k2
      · have := RZ_trans h z x y k k2
        unfold RZ at this; rw [this] at h2; cases h2
      · unfold RZ at k2; rw [k2] at h1; cases h1
  · unfold ltZ at *
    simp only [Bool.not_eq_false'] at *
    exact RZ_trans h z y x h2 h1
theorem ltZ_of {x y : α × Nat} (h : y.2 < x.2) : ltP lt x y = ltZ lt x y := by
  unfold ltP ltZ List.zipIdxLE leS
  cases h1 : lt x.1 y.1 <;> cases h2 : lt y.1 x.1 <;> simp <;> omega
theorem RZ_of_lt (h : SWO lt) {x y : α × Nat} (h1 : ltP lt x y = true) : RZ lt x y := by
  unfold ltP at h1
  unfold RZ List.zipIdxLE leS
  rw [h1, h.asymmA h1]; simp
theorem RZ_of_not {x y : α × Nat} (h1 : ltP lt y x = false) (h2 : x.2 ≤ y.2) : RZ lt x y := by
  unfold ltP at h1
  unfold RZ List.zipIdxLE leS
  rw [h1]
  simp only [Bool.not_false, if_true]
  split <;> simp [h2]
theorem ordZ (h : SWO lt) : Ord (ltP lt) (RZ lt) := ⟨RZ_trans h, fun x y => RZ_of_lt h⟩
/-- A list with its places, as a row. -/
def zipA (l : List α) : Array (α × Nat) := l.zipIdx.toArray
theorem zipA_size (l : List α) : (zipA l).size = l.length := by simp [zipA]
end

section
variable {α : Type} [Inhabited α] {lt : α → α → Bool}
theorem up_of_sorted {a b : Nat} {d : Array (α × Nat)} (h : SortedIn (ltZ lt) a b d) : Up (RZ lt) a b d := by
  intro i j h1 h2 h3
  have := h i j h1 h2 h3
  unfold ltZ at this
  simpa [RZ] using this
/-- Places rise. -/
def Rise (a b : Nat) (d : Array (α × Nat)) : Prop := ∀ i j, a ≤ i → i < j → j < b → (d[i]!).2 < (d[j]!).2
theorem insInner_same (a : Nat) : ∀ (j : Nat) (d : Array (α × Nat)), (∀ t, a ≤ t → t < j → (d[t]!).2 < (d[j]!).2) → j < d.size → insInner (ltP lt) a j d = insInner (ltZ lt) a j d
  | 0, d, _, _ => rfl
  | j + 1, d, hd, hj => by
    unfold insInner
    by_cases h : j + 1 > a
    · rw [ltZ_of (hd j (by omega) (by omega)), insInner_same a j (swp d (j + 1) j) (fun t h1 h2 => by
        rw [swp_right d _ _ (by omega), swp_other d _ _ _ (by omega) (by omega)]; exact hd t h1 (by omega)) (by rw [size_swp]; omega)]
    · rw [if_neg (by simp [h]), if_neg (by simp [h])]
theorem insInner_perm (l : α × Nat → α × Nat → Bool) (a b : Nat) : ∀ (j : Nat) (d : Array (α × Nat)), a ≤ j → j < b → b ≤ d.size → PermIn a b d (insInner l a j d)
  | 0, d, _, _, _ => by unfold insInner; exact permIn_refl d a b
  | j + 1, d, h1, h2, h3 => by
    unfold insInner
    split
    · rename_i hc
      simp only [Bool.and_eq_true, decide_eq_true_eq] at hc
      exact permIn_trans _ _ _ a b (swp_permIn d a b (j + 1) j (by omega) (by omega) (by omega) (by omega) h3) (insInner_perm l a b j _ (by omega) (by omega) (by rw [size_swp]; exact h3))
    · exact permIn_refl d a b
theorem insOuter_same (a b : Nat) : ∀ (n i : Nat) (d : Array (α × Nat)), b - i = n → a < i → b ≤ d.size → (∀ t u, a ≤ t → t < u → i ≤ u → u < b → (d[t]!).2 < (d[u]!).2) → insOuter (ltP lt) a b i d = insOuter (ltZ lt) a b i d
  | 0, i, d, hn, _, _, _ => by
    rw [insOuter, if_neg (by omega), insOuter, if_neg (by omega)]
  | n + 1, i, d, hn, hai, hb, hd => by
    have hi : i < b := by omega
    rw [insOuter, if_pos hi, insInner_same a i d (fun t h1 h2 => hd t i h1 h2 (Nat.le_refl _) hi) (by omega)]
    conv => rhs; rw [insOuter, if_pos hi]
    have hp := insInner_perm (ltZ lt) a (i + 1) i d (by omega) (by omega) (by omega)
    refine insOuter_same a b n (i + 1) _ (by omega) (by omega) (by rw [hp.1]; exact hb) ?_
    intro t u h1 h2 h3 h4
    rw [at_out hp (i := u) (Or.inr h3)]
    by_cases h5 : t < i + 1
    · exact permIn_all d _ a (i + 1) (fun x => x.2 < (d[u]!).2) (by omega) hp (fun s p q => hd s u p (by omega) (by omega) h4) t h1 h5
    · rw [at_out hp (i := t) (Or.inr (by omega))]
      exact hd t u h1 h2 (by omega) h4
theorem ins_block (h : SWO lt) {a b : Nat} {d : Array (α × Nat)} (hab : a ≤ b) (hb : b ≤ d.size) (hr : Rise a b d) :
    PermIn a b d (insertionSort (ltP lt) d a b) ∧ Up (RZ lt) a b (insertionSort (ltP lt) d a b) := by
  have e : insertionSort (ltP lt) d a b = insertionSort (ltZ lt) d a b := insOuter_same a b _ (a + 1) d rfl (by omega) hb (fun t u h1 h2 h3 h4 => hr t u h1 h2 h4)
  rw [e]
  obtain ⟨h1, h2⟩ := insertionSort_holds (swo_ltZ h) d a b hab hb
  exact ⟨h1, up_of_sorted h2⟩
theorem crs_of {a m b : Nat} {d : Array (α × Nat)} (h : ∀ i j, a ≤ i → i < m → m ≤ j → j < b → (d[i]!).2 ≤ (d[j]!).2) : Crs (ltP lt) (RZ lt) a m b d :=
  fun i j h1 h2 h3 h4 h5 => RZ_of_not h5 (h i j h1 h2 h3 h4)
theorem zipA_at (l : List α) (i : Nat) (h : i < l.length) : (zipA l)[i]! = (l[i], i) := by
  unfold zipA
  rw [getElem!_pos _ i (by simpa using h)]
  simp
theorem zipA_rise (l : List α) (a b : Nat) (h : b ≤ l.length) : Rise a b (zipA l) := by
  intro i j h1 h2 h3
  rw [zipA_at l i (by omega), zipA_at l j (by omega)]
  exact h2
/-- What is sorted so is core's mergeSort. -/
theorem stable_end (h : SWO lt) (l : List α) (d : Array (α × Nat)) (hp : PermIn 0 l.length (zipA l) d) (hu : Up (RZ lt) 0 l.length d) : d.toList.map (·.1) = l.mergeSort (leS lt) := by
  have hsz : d.size = l.length := by rw [hp.1, zipA_size]
  have hperm : d.toList.Perm l.zipIdx := by
    have h1 := hp.2.2
    rw [← hsz, Array.extract_size] at h1
    have h2 : (zipA l).extract 0 d.size = zipA l := by rw [hsz, ← zipA_size l, Array.extract_size]
    rw [h2] at h1
    simpa [zipA] using h1
  have e : d.toList = l.zipIdx.mergeSort (List.zipIdxLE (leS lt)) := by
    refine List.Perm.eq_of_pairwise (le := fun x y => List.zipIdxLE (leS lt) x y = true) ?_ ?_ (List.pairwise_mergeSort (List.zipIdxLE_trans (leS_trans h)) (List.zipIdxLE_total (leS_total h)) _) (hperm.trans (List.mergeSort_perm _ _).symm)
    · rintro ⟨a, i⟩ ⟨b, j⟩ ha hb h1 h2
      have ha := hperm.mem_iff.1 ha
      rw [List.mem_mergeSort] at hb
      have hij : i = j := by
        unfold List.zipIdxLE at h1 h2
        revert h1 h2
        cases leS lt a b <;> cases leS lt b a <;> simp <;> omega
      subst hij
      have ka := List.mem_zipIdx ha
      have kb := List.mem_zipIdx hb
      simp only [Prod.mk.injEq, and_true]
      rw [ka.2.2, kb.2.2]
    · rw [List.pairwise_iff_getElem]
      intro i j hi hj hij
      have := hu i j (Nat.zero_le _) hij (by simpa [hsz] using hj)
      rw [getElem!_pos d i (by simpa using hi), getElem!_pos d j (by simpa using hj)] at this
      simpa [RZ] using this
  rw [e]
  exact List.mergeSort_zipIdx
end
end

end Go.Proofs.YtmniiodpbebnmaaGreat
