/- A stable merge in place, by rotations: the plain law; The stable order: insertion of blocks whose places rise; what comes of it is core's mergeSort; slices.swapRange and rotate at entries, walked; slices.symMerge at entries, walked; Contracts of the shelf, laid at this program (by lay-plain.mjs; numbers by name); slices.SortStableFunc at entries, however many; stripe.Sort: entries in order by their keys, those of one key in their order; Entries in order, and where each stood; A cut's Get: a binary search; cut.New: all frozen entries of all parts, sorted; slices.Compact at keys, walked; Contracts of the shelf, laid at this program (by lay-plain.mjs; numbers by name); ident.Rising, walked over the contracts of Clone, SortFunc, Compact; Equal lists, or not: slices.Equal, flywheelref08.Same, flywheelref14.Same; Alike, at nodes and at loads; A cut's Keys, and what of two cuts differs; Two stripes in one memory: what one's Freeze leaves of the other; what Freeze gives; flywheelref19.Keys: the keys of parts, rising; The plain law of CutDiffers; What was frozen, and the reference's items, while the stripe goes on. -/
import Derived.Sort.LotA
import Derived.Sort.Lot0
import Derived.Test.YtmniiodpbebnmaaGreatC14
import Derived.Test.YtmniiodpbebnmaaGreatC12
import Derived.BigRegion
import Derived.Shelf.SlSortCmp.QuietGrown
import Derived.Shelf.SlSortFuncK.SWK
import Derived.Deep.DeepCutAuto
import Derived.Test.YtmniiodpbebnmaaGreatC01
import Derived.Shelf.SlSortCmp.NoneTotal
import Derived.Shelf.SlSortCmp.PdqK
import Derived.Test.YtmniiodpbebnmaaGreatC03
import Derived.Test.YtmniiodpbebnmaaGreatC04
import Derived.Test.YtmniiodpbebnmaaGreatC11
import Derived.Test.YtmniiodpbebnmaaGreatC08
import Derived.Test.YtmniiodpbebnmaaGreatC02
import Derived.Deep.LoopGhost
import Derived.Sort.WalkB12
import Derived.Lib.SliceRun
import Derived.Lib.OwnBridge
import Derived.Shelf.GgSortFunc.RowK
import Derived.Shelf.SlicesQ.Reverse
import Derived.Shelf.SlicesE.Clone
import Derived.Test.YtmniiodpbebnmaaGreatC07
import Derived.Lib.SmallJoins
import Derived.Test.YtmniiodpbebnmaaGreatC05
import Derived.Test.YtmniiodpbebnmaaGreatC06
import Derived.Test.YtmniiodpbebnmaaGreatC09
namespace Go.Proofs.YtmniiodpbebnmaaGreat

section
set_option linter.unusedSimpArgs false
set_option linter.unusedVariables false
open Go.Sort

section
variable {β : Type} [Inhabited β]

/-- Two neighbouring parts, [a, m) and [m, b), changed their places. -/
def Rot (d d' : Array β) (a m b : Nat) : Prop := ∀ t, d'[t]! = if t < a ∨ b ≤ t then d[t]! else if t < a + (b - m) then d[t + m - a]! else d[t - (b - m)]!
/-- Two parts of one length changed their places. -/
def Swr (d d' : Array β) (a b n : Nat) : Prop := ∀ t, d'[t]! = if a ≤ t ∧ t < a + n then d[b + (t - a)]! else if b ≤ t ∧ t < b + n then d[a + (t - b)]! else d[t]!
theorem at_eq (d : Array β) {i j : Nat} (h : i = j) : d[i]! = d[j]! := by rw [h]
theorem Swr.zero (d : Array β) (a b : Nat) : Swr d d a b 0 := by
  intro t
  rw [if_neg (by omega), if_neg (by omega)]
theorem Swr.step {d d1 : Array β} {a b n : Nat} (h : Swr d d1 a b n) (hab : a + n < b) (hb : b + n < d1.size) : Swr d (swp d1 (a + n) (b + n)) a b (n + 1) := by
  intro t
  by_cases h1 : t = a + n
  · subst h1
    rw [swp_left d1 _ _ (by omega) (by omega), h]
    repeat' split
    all_goals first | exact at_eq d (by omega) | (exfalso; omega)
  · by_cases h2 : t = b + n
    · subst h2
      rw [swp_right d1 _ _ (by omega), h]
      repeat' split
      all_goals first | exact at_eq d (by omega) | (exfalso; omega)
    · rw [swp_other d1 _ _ _ h1 h2, h]
      repeat' split
      all_goals first | exact at_eq d (by omega) | (exfalso; omega)
/-- Halves of one length: to rotate is to exchange them. -/
theorem Rot.half {d d' : Array β} {a m b : Nat} (h : Swr d d' a m (m - a)) (ham : a ≤ m) (hb : b - m = m - a) (hmb : m ≤ b) : Rot d d' a m b := by
  intro t
  rw [h]
  repeat' split
  all_goals first | exact at_eq d (by omega) | (exfalso; omega)
/-- The left part is longer: its head is exchanged with the right part. -/
theorem Rot.left {d d1 d2 : Array β} {m i j : Nat} (h : Swr d d1 (m - i) m j) (hi : i ≤ m) (hij : j < i) (h2 : Rot d1 d2 (m - (i - j)) m (m + j)) : Rot d d2 (m - i) m (m + j) := by
  intro t
  rw [h2]
  by_cases h1 : t < m - (i - j) ∨ m + j ≤ t
  · rw [if_pos h1, h]
    repeat' split
    all_goals first | exact at_eq d (by omega) | (exfalso; omega)
  · rw [if_neg h1]
    by_cases h4 : t < m - (i - j) + (m + j - m)
    · rw [if_pos h4, h]
      repeat' split
      all_goals first | exact at_eq d (by omega) | (exfalso; omega)
    · rw [if_neg h4, h]
      repeat' split
      all_goals first | exact at_eq d (by omega) | (exfalso; omega)
/-- The right part is longer: its tail is exchanged with the left part. -/
theorem Rot.right {d d1 d2 : Array β} {m i j : Nat} (h : Swr d d1 (m - i) (m + j - i) i) (hi : i ≤ m) (hij : i < j) (h2 : Rot d1 d2 (m - i) m (m + (j - i))) : Rot d d2 (m - i) m (m + j) := by
  intro t
  rw [h2]
  by_cases h1 : t < m - i ∨ m + (j - i) ≤ t
  · rw [if_pos h1, h]
    repeat' split
    all_goals first | exact at_eq d (by omega) | (exfalso; omega)
  · rw [if_neg h1]
    by_cases h4 : t < m - i + (m + (j - i) - m)
    · rw [if_pos h4, h]
      repeat' split
      all_goals first | exact at_eq d (by omega) | (exfalso; omega)
    · rw [if_neg h4, h]
      repeat' split
      all_goals first | exact at_eq d (by omega) | (exfalso; omega)
theorem Rot.none {d : Array β} {a m b : Nat} (h : m ≤ a ∨ b ≤ m) (h2 : a ≤ m ∧ m ≤ b) : Rot d d a m b := by
  intro t
  repeat' split
  all_goals first | exact at_eq d (by omega) | (exfalso; omega)
/-- One element goes up by one place more. -/
theorem Rot.up {d d1 : Array β} {a k : Nat} (h : Rot d d1 a (a + 1) (k + 1)) (hak : a ≤ k) (hk : k + 1 < d1.size) : Rot d (swp d1 k (k + 1)) a (a + 1) (k + 2) := by
  intro t
  by_cases h1 : t = k
  · subst h1
    rw [swp_left d1 _ _ (by omega) (by omega), h]
    repeat' split
    all_goals first | exact at_eq d (by omega) | (exfalso; omega)
  · by_cases h2 : t = k + 1
    · subst h2
      rw [swp_right d1 _ _ (by omega), h]
      repeat' split
      all_goals first | exact at_eq d (by omega) | (exfalso; omega)
    · rw [swp_other d1 _ _ _ h1 h2, h]
      repeat' split
      all_goals first | exact at_eq d (by omega) | (exfalso; omega)
variable (lt : β → β → Bool) (R : β → β → Prop)
/-- Rising, in order. -/
def Up (a b : Nat) (d : Array β) : Prop := ∀ i j, a ≤ i → i < j → j < b → R d[i]! d[j]!
/-- Of two parts: what is not less stands behind. -/
def Crs (a m b : Nat) (d : Array β) : Prop := ∀ i j, a ≤ i → i < m → m ≤ j → j < b → lt d[j]! d[i]! = false → R d[i]! d[j]!
structure Ord : Prop where
  tr : ∀ x y z, R x y → R y z → R x z
  lt : ∀ x y, lt x y = true → R x y

variable {lt R}
theorem Up.one {a b : Nat} {d : Array β} (h : b ≤ a + 1) : Up R a b d := fun i j h1 h2 h3 => absurd h3 (by omega)
theorem Up.le {a b : Nat} {d : Array β} (h : Up R a b d) {i j : Nat} (hi : a ≤ i) (hij : i ≤ j) (hj : j < b) {x : β} (O : Ord lt R) (hx : R d[j]! x) : R d[i]! x := by
  by_cases e : i = j
  · rw [e]; exact hx
  · exact O.tr _ _ _ (h i j hi (by omega) hj) hx
theorem at_out {d d' : Array β} {a b : Nat} (h : PermIn a b d d') {i : Nat} (hi : i < a ∨ b ≤ i) : d'[i]! = d[i]! := h.2.1 i hi
theorem Up.out {d d' : Array β} {a b x y : Nat} (h : PermIn x y d d') (hu : Up R a b d) (ho : b ≤ x ∨ y ≤ a) : Up R a b d' := fun i j p q r => by
  rw [at_out h (show i < x ∨ y ≤ i by omega), at_out h (show j < x ∨ y ≤ j by omega)]; exact hu i j p q r
theorem Crs.out {d d' : Array β} {a m b x y : Nat} (h : PermIn x y d d') (hu : Crs lt R a m b d) (ho : b ≤ x ∨ y ≤ a) (hamb : a ≤ m ∧ m ≤ b) : Crs lt R a m b d' := fun i j p q r s => by
  rw [at_out h (show i < x ∨ y ≤ i by omega), at_out h (show j < x ∨ y ≤ j by omega)]; exact hu i j p q r s
end
end

section
set_option linter.unusedSimpArgs false
set_option linter.unusedVariables false
open Go.Sort

section
variable {α : Type} (lt : α → α → Bool)
def leS (x y : α) : Bool := !lt y x
def RZ (x y : α × Nat) : Prop := List.zipIdxLE (leS lt) x y = true
variable {lt}
end

section
variable {α : Type} [Inhabited α] {lt : α → α → Bool}
/-- Places rise. -/
def Rise (a b : Nat) (d : Array (α × Nat)) : Prop := ∀ i j, a ≤ i → i < j → j < b → (d[i]!).2 < (d[j]!).2
end
end

section
set_option linter.unusedSimpArgs false
set_option linter.unusedVariables false
open Go.RowKit Go.Lib Go.Sort

/-- An entry and its place. -/
abbrev Pl := En × Nat
def plC (x : Pl) : List Value := enC x.1
/-- A row in a sort: the base world, what the row holds now. -/
structure InSort (w0 : World) (g : Nat) (d0 d : Array Pl) (w : World) : Prop where
  hg : g < w0.heap.size
  h0 : HoldsK plC 3 w0 g 0 d0
  hs : d.size = d0.size
  sw : SWK plC 3 w0 g 0 d w
theorem InSort.holds {w0 w : World} {g : Nat} {d0 d : Array Pl} (h : InSort w0 g d0 d w) : HoldsK plC 3 w g 0 d := h.sw.holds h.hg h.h0 h.hs
theorem InSort.drewN {w0 w : World} {g : Nat} {d0 d : Array Pl} (h : InSort w0 g d0 d w) (n : Nat) : InSort w0 g d0 d (w.drewN n) := ⟨h.hg, h.h0, h.hs, h.sw.drewN n⟩
theorem InSort.grown {w0 w : World} {g : Nat} {d0 d : Array Pl} (h : InSort w0 g d0 d w) (n : Nat) (os : Array Obj) : InSort w0 g d0 d (grow (w.drewN n) os) := by
  refine ⟨h.hg, h.h0, h.hs, ?_⟩
  obtain ⟨m, os', rfl⟩ := h.sw
  exact ⟨_, _, sortWorldK_grown_c plC 3 w0 g 0 m n d os' os⟩
end

section
set_option linter.unusedSimpArgs false
set_option linter.unusedVariables false
open Go.RowKit Go.Lib Go.Sort

def ltE (x y : En) : Bool := ltK x.1 y.1
end

section
set_option linter.unusedSimpArgs false
set_option linter.unusedVariables false
open Go.Shelf
end

section
set_option linter.unusedSimpArgs false
set_option linter.unusedVariables false
open Go.RowKit Go.Lib Go.Sort Go.Shelf

theorem Rise.out {d d' : Array Pl} {a b x y : Nat} (h : PermIn x y d d') (hr : Rise a b d) (ho : b ≤ x ∨ y ≤ a) : Rise a b d' := fun i j p q r => by
  rw [at_out h (show i < x ∨ y ≤ i by omega), at_out h (show j < x ∨ y ≤ j by omega)]; exact hr i j p q r
/-! ### Blocks, and what each of them holds -/
def Al (s a : Nat) : Prop := ∃ k, a = k * s
theorem Al.zero (s : Nat) : Al s 0 := ⟨0, by simp⟩
theorem Al.next {s a : Nat} (h : Al s a) : Al s (a + s) := by
  obtain ⟨k, rfl⟩ := h
  exact ⟨k + 1, by rw [Nat.add_mul, Nat.one_mul]⟩
theorem Al.half {s a : Nat} (h : Al (2 * s) a) : Al s a := by
  obtain ⟨k, rfl⟩ := h
  exact ⟨k * 2, by rw [Nat.mul_assoc]⟩
theorem Al.step {s a b : Nat} (h : Al s a) (k : Al s b) (hab : a < b) : a + s ≤ b := by
  obtain ⟨x, rfl⟩ := h
  obtain ⟨y, rfl⟩ := k
  have hs : x < y := Nat.lt_of_mul_lt_mul_right hab
  have := Nat.mul_le_mul_right s hs
  rwa [Nat.succ_mul] at this
/-- Elements stand in the block where they stood at first. -/
def Own1 (s n : Nat) (d : Array Pl) (a : Nat) : Prop := ∀ i, a ≤ i → i < a + s → i < n → a ≤ (d[i]!).2 ∧ (d[i]!).2 < a + s
def Blk1 (s n : Nat) (d : Array Pl) (a : Nat) : Prop := Own1 s n d a ∧ Up (RZ ltE) a (min (a + s) n) d
theorem Blk1.out {s n x y : Nat} {d d' : Array Pl} {a : Nat} (h : Blk1 s n d a) (hp : PermIn x y d d') (ho : min (a + s) n ≤ x ∨ y ≤ a) : Blk1 s n d' a :=
  ⟨fun i p q r => by rw [at_out hp (show i < x ∨ y ≤ i by omega)]; exact h.1 i p q r, h.2.out hp ho⟩
theorem Own1.perm {s n y : Nat} {d d' : Array Pl} {a : Nat} (h : Own1 s n d a) (hp : PermIn a y d d') (hy : y = min (a + s) n) (hd : d.size = n) : Own1 s n d' a := by
  have h1 := permIn_all d d' a y (fun x => a ≤ x.2 ∧ x.2 < a + s) (by omega) hp (fun i p q => h i p (by omega) (by omega))
  exact fun i p q r => h1 i p (by omega)
/-- All blocks are in order. -/
def Blk (s n : Nat) (d : Array Pl) : Prop := ∀ a, Al s a → a < n → Blk1 s n d a
theorem Own1.two {s n : Nat} {d : Array Pl} {a : Nat} (h1 : Own1 s n d a) (h2 : Own1 s n d (a + s)) : Own1 (2 * s) n d a := fun i p q r => by
  rcases Nat.lt_or_ge i (a + s) with h | h
  · have := h1 i p h r; omega
  · have := h2 i h (by omega) r; omega
/-- Between two merges. -/
structure Mid (s n a : Nat) (d : Array Pl) : Prop where
  al : Al (2 * s) a
  lo : ∀ x, Al (2 * s) x → x < a → Blk1 (2 * s) n d x
  hi : ∀ x, Al s x → a ≤ x → x < n → Blk1 s n d x
theorem Mid.start {s n : Nat} {d : Array Pl} (h : Blk s n d) : Mid s n 0 d := ⟨Al.zero _, fun _ _ hx => absurd hx (Nat.not_lt_zero _), fun x hx _ hn => h x hx hn⟩
theorem Mid.own {s n a : Nat} {d : Array Pl} (h : Mid s n a d) (han : a < n) (hs : 0 < s) : Own1 (2 * s) n d a := by
  refine Own1.two (h.hi a h.al.half (Nat.le_refl _) han).1 ?_
  rcases Nat.lt_or_ge (a + s) n with h1 | h1
  · exact (h.hi (a + s) h.al.half.next (by omega) h1).1
  · exact fun i p q r => by omega
theorem Mid.put {s n a y : Nat} {d d' : Array Pl} (h : Mid s n a d) (hd : d.size = n) (hs : 0 < s) (han : a < n) (hy : y = min (a + 2 * s) n) (hp : PermIn a y d d') (hu : Up (RZ ltE) a y d') : (∀ x, Al (2 * s) x → x < a + 2 * s → Blk1 (2 * s) n d' x) ∧ ∀ x, Al s x → a + 2 * s ≤ x → x < n → Blk1 s n d' x := by
  refine ⟨fun x hx hlt => ?_, fun x hx hle hn => (h.hi x hx (by omega) hn).out hp (Or.inr (by omega))⟩
  rcases Nat.lt_or_ge x a with h1 | h1
  · have := hx.step h.al h1
    exact (h.lo x hx h1).out hp (Or.inl (by omega))
  · obtain rfl : x = a := by
      rcases Nat.lt_or_ge a x with h2 | h2
      · have := h.al.step hx h2; omega
      · omega
    exact ⟨(h.own han hs).perm hp hy hd, hy ▸ hu⟩
theorem Mid.step {s n a : Nat} {d d' : Array Pl} (h : Mid s n a d) (hd : d.size = n) (hs : 0 < s) (ha : a + 2 * s ≤ n) (hp : PermIn a (a + 2 * s) d d') (hu : Up (RZ ltE) a (a + 2 * s) d') : Mid s n (a + 2 * s) d' := by
  obtain ⟨h1, h2⟩ := h.put hd hs (by omega) (by omega) hp hu
  exact ⟨h.al.next, h1, h2⟩
theorem Mid.last {s n a : Nat} {d d' : Array Pl} (h : Mid s n a d) (hd : d.size = n) (hs : 0 < s) (ha : ¬ a + 2 * s ≤ n) (h1 : a + s < n) (hp : PermIn a n d d') (hu : Up (RZ ltE) a n d') : Blk (2 * s) n d' := by
  obtain ⟨h2, _⟩ := h.put hd hs (by omega) (by omega) hp hu
  exact fun x hx hn => h2 x hx (by omega)
theorem Mid.done {s n a : Nat} {d : Array Pl} (h : Mid s n a d) (hs : 0 < s) (ha : ¬ a + s < n) : Blk (2 * s) n d := fun x hx hn => by
  rcases Nat.lt_or_ge x a with h1 | h1
  · exact h.lo x hx h1
  · obtain rfl : x = a := by
      rcases Nat.lt_or_ge a x with h2 | h2
      · have := h.al.step hx h2; omega
      · omega
    refine ⟨h.own hn hs, ?_⟩
    have h3 := (h.hi x h.al.half (Nat.le_refl _) hn).2
    rwa [show min (x + s) n = min (x + 2 * s) n by omega] at h3
/-- Between two insertions. -/
structure InsAt (n a : Nat) (d : Array Pl) : Prop where
  al : Al 20 a
  lo : ∀ x, Al 20 x → x < a → Blk1 20 n d x
  hi : ∀ i, a ≤ i → i < n → (d[i]!).2 = i
theorem InsAt.start {n : Nat} {d : Array Pl} (h : ∀ i, i < n → (d[i]!).2 = i) : InsAt n 0 d := ⟨Al.zero _, fun _ _ hx => absurd hx (Nat.not_lt_zero _), fun i _ hi => h i hi⟩
theorem InsAt.rise {n a b : Nat} {d : Array Pl} (h : InsAt n a d) (hb : b ≤ n) : Rise a b d := fun i j p q r => by
  rw [h.hi i p (by omega), h.hi j (by omega) (by omega)]; exact q
theorem InsAt.put {n a y : Nat} {d d' : Array Pl} (h : InsAt n a d) (hd : d.size = n) (hy : y = min (a + 20) n) (hp : PermIn a y d d') (hu : Up (RZ ltE) a y d') : (∀ x, Al 20 x → x < a + 20 → Blk1 20 n d' x) ∧ ∀ i, a + 20 ≤ i → i < n → (d'[i]!).2 = i := by
  refine ⟨fun x hx hlt => ?_, fun i hi hn => by rw [at_out hp (Or.inr (by omega))]; exact h.hi i (by omega) hn⟩
  rcases Nat.lt_or_ge x a with h1 | h1
  · have := hx.step h.al h1
    exact (h.lo x hx h1).out hp (Or.inl (by omega))
  · obtain rfl : x = a := by
      rcases Nat.lt_or_ge a x with h2 | h2
      · have := h.al.step hx h2; omega
      · omega
    exact ⟨Own1.perm (fun i p q r => by rw [h.hi i p r]; exact ⟨p, q⟩) hp hy hd, hy ▸ hu⟩
theorem InsAt.step {n a : Nat} {d d' : Array Pl} (h : InsAt n a d) (hd : d.size = n) (ha : a + 20 ≤ n) (hp : PermIn a (a + 20) d d') (hu : Up (RZ ltE) a (a + 20) d') : InsAt n (a + 20) d' := by
  obtain ⟨h1, h2⟩ := h.put hd (by omega) hp hu
  exact ⟨h.al.next, h1, h2⟩
theorem InsAt.last {n a : Nat} {d d' : Array Pl} (h : InsAt n a d) (hd : d.size = n) (ha : ¬ a + 20 ≤ n) (hp : PermIn a n d d') (hu : Up (RZ ltE) a n d') : Blk 20 n d' := by
  rcases Nat.lt_or_ge n a with h0 | h0
  · intro x hx hn
    rcases Nat.lt_or_ge x a with h1 | h1
    · have := hx.step h.al h1
      refine (h.lo x hx h1).out hp (Or.inl ?_)
      omega
    · omega
  · obtain ⟨h2, _⟩ := h.put hd (by omega) hp hu
    exact fun x hx hn => h2 x hx (by omega)
end

section
set_option linter.unusedSimpArgs false
set_option linter.unusedVariables false
open Go.RowKit Go.Lib Go.Sort Go.Shelf
end

section
set_option linter.unusedSimpArgs false
set_option linter.unusedVariables false
open Go.RowKit Go.Lib Go.Sort
end

section
set_option linter.unusedSimpArgs false
set_option linter.unusedVariables false
open Go.RowKit Go.Lib Go.Sort

/-- The first entry's node of a key. -/
def findE (l : List En) (k : Ky) : Option Nat := (l.find? fun x => decide (x.1 = k)).map (·.2)
/-- In order. -/
def Ris (l : List En) : Prop := ∀ i j (h1 : i < l.length) (h2 : j < l.length), i < j → ltK l[j].1 l[i].1 = false
/-- A cut in memory. -/
def CutIn (w : World) (C : Nat) (ep : Int) (l : List En) : Prop := ∃ A c, w.heap[C]? = some (.cells #[.int .i64 ep, .slice A l.length c] 167 (0, 0)) ∧ RowIn 3 enC w (.slice A l.length c) l
theorem CutIn.below {w w' : World} {C : Nat} {ep : Int} {l : List En} (h : CutIn w C ep l) (hb : Below w.heap.size w w') : CutIn w' C ep l := by
  obtain ⟨A, c, h1, h2⟩ := h
  exact ⟨A, c, (hb.block _ (Array.getElem?_eq_some_iff.1 h1).1).trans h1, h2.below hb⟩
def ptr (o : Option Nat) : Value := .pointer (o.map fun n => ⟨n, 0, none⟩)
end

section
set_option linter.unusedSimpArgs false
set_option linter.unusedVariables false
open Go.RowKit Go.Lib Go.Sort

/-- An entry that may lack a node. -/
abbrev Eo := Ky × Option Nat
def eoC (x : Eo) : List Value := [.int .u64 x.1.1, .int .u64 x.1.2, ptr x.2]
abbrev PartE := Option Addr × Nat × List Eo
def partC (p : PartE) : List Value := [.slice p.1 p.2.2.length p.2.1]
def PartsIn (w : World) (v : Value) (ps : List PartE) : Prop := RowIn 1 partC w v ps ∧ ∀ p ∈ ps, RowIn 3 eoC w (.slice p.1 p.2.2.length p.2.1) p.2.2
theorem PartsIn.below {w w' : World} {v : Value} {ps : List PartE} (h : PartsIn w v ps) (hb : Below w.heap.size w w') : PartsIn w' v ps := ⟨h.1.below hb, fun p hp => (h.2 p hp).below hb⟩
/-- A node that is frozen, or not. -/
def FzN (w : World) (n : Nat) (b : Bool) : Prop := ∃ y rs rh fp, NodeIn w n y rs rh fp ∧ y.frz = b
theorem FzN.below {w w' : World} {n : Nat} {b : Bool} (h : FzN w n b) (hb : Below w.heap.size w w') : FzN w' n b := by
  obtain ⟨y, rs, rh, fp, h1, h2⟩ := h
  exact ⟨y, rs, rh, fp, h1.below hb, h2⟩
/-- A cut whose blocks are new. -/
def CutAt (B : Nat) (w : World) (C : Nat) (ep : Int) (l : List En) : Prop := B ≤ C ∧ ∃ A c, w.heap[C]? = some (.cells #[.int .i64 ep, .slice A l.length c] 167 (0, 0)) ∧ OwnL enC 246 3 (C + 1) w (.slice A l.length c) l
theorem CutAt.kept {B : Nat} {w w' : World} {C : Nat} {ep : Int} {l : List En} (h : CutAt B w C ep l) (hk : ∀ r, B ≤ r → r < w.heap.size → w'.heap[r]? = w.heap[r]?) : CutAt B w' C ep l := by
  obtain ⟨hB, A, c, h1, h2⟩ := h
  exact ⟨hB, A, c, (hk C hB (Array.getElem?_eq_some_iff.1 h1).1).trans h1, h2.kept (fun r hr => hk r (by have := (h2.lt hr).1; omega) (h2.lt hr).2)⟩
theorem CutAt.below {B : Nat} {w w' : World} {C : Nat} {ep : Int} {l : List En} (h : CutAt B w C ep l) (hb : Below w.heap.size w w') : CutAt B w' C ep l := h.kept (fun r _ hr => hb.block r hr)
theorem CutAt.lt {B : Nat} {w : World} {C : Nat} {ep : Int} {l : List En} (h : CutAt B w C ep l) : C < w.heap.size := by
  obtain ⟨_, A, c, h1, _⟩ := h
  exact (Array.getElem?_eq_some_iff.1 h1).1
theorem CutAt.lower {B B' : Nat} {w : World} {C : Nat} {ep : Int} {l : List En} (h : CutAt B w C ep l) (hb : B' ≤ B) : CutAt B' w C ep l := ⟨Nat.le_trans hb h.1, h.2⟩
end

section
set_option linter.unusedSimpArgs false
set_option linter.unusedVariables false
open Go.RowKit Go.Lib Go.Sort
end

section
set_option linter.unusedSimpArgs false
set_option linter.unusedVariables false
open Go.Shelf
end

section
set_option linter.unusedSimpArgs false
set_option linter.unusedVariables false
open Go.RowKit Go.Lib Go.Sort

/-! ### Cmp as the sort asks for it -/
/-- The same, and the row is the caller's own. -/
def RisW (w : World) (l : List Ky) (e : Ending) (w' : World) : Prop := ∃ v', e = .returned v' ∧ KeysIn w' v' l ∧ Below w.heap.size w w' ∧ w'.ownsRow w.heap.size 74 2 v' l.length (cellsK l)
end

section
set_option linter.unusedSimpArgs false
set_option linter.unusedVariables false
open Go.RowKit Go.Lib Go.Sort

deriving instance DecidableEq for Adv
end

section
set_option linter.unusedSimpArgs false
set_option linter.unusedVariables false
open Go.RowKit Go.Lib Go.Sort

deriving instance DecidableEq for Pol
end

section
set_option linter.unusedSimpArgs false
set_option linter.unusedVariables false
open Go.RowKit Go.Lib Go.Sort

theorem cellsK_row (l : List Ky) : cellsK l = cellsOfRow keyC l := by
  induction l with
  | nil => rfl
  | cons x l ih => simp [cellsK, cellsOfRow, keyC, List.flatMap_cons] at ih ⊢; try exact ih
theorem RisW.own {w w' : World} {l : List Ky} {e : Ending} (h : RisW w l e w') : ∃ A c, e = .returned (.slice A l.length c) ∧ OwnL keyC 74 2 w.heap.size w' (.slice A l.length c) l ∧ Below w.heap.size w w' := by
  obtain ⟨v, rfl, _, hb, ho⟩ := h
  rw [cellsK_row] at ho
  have ho : OwnL keyC 74 2 w.heap.size w' v l := ho
  obtain ⟨A, c, rfl⟩ := ho.form
  exact ⟨A, c, rfl, ho, hb⟩

/-- The nodes of a cut's entries. -/
def NodesOf (w : World) (l : List En) (nd : En → Nd) (rs rh : Nat) : Prop := ∀ x ∈ l, ∃ fp, NodeIn w x.2 (nd x) rs rh fp
theorem NodesOf.below {w w' : World} {l : List En} {nd : En → Nd} {rs rh : Nat} (h : NodesOf w l nd rs rh) (hb : Below w.heap.size w w') : NodesOf w' l nd rs rh := fun x hx => by
  obtain ⟨fp, h⟩ := h x hx
  exact ⟨fp, h.below hb⟩
end

section
set_option linter.unusedSimpArgs false
set_option linter.unusedVariables false
open Go.RowKit Go.Lib Go.Sort

/-- A world of which only the old blocks are left. -/
def cutW (w : World) (n : Nat) : World := { w with heap := w.heap.extract 0 n }
theorem cutW_below {w : World} {n : Nat} (hn : n ≤ w.heap.size) : (cutW w n).heap.size = n ∧ Below (cutW w n).heap.size (cutW w n) w := by
  have e : (cutW w n).heap.size = n := by simp [cutW]; omega
  refine ⟨e, ⟨rfl, rfl, rfl, by rw [e]; exact hn, fun k hk => ?_⟩⟩
  rw [e] at hk
  simp only [cutW]
  rw [Array.getElem?_extract]
  simp
  omega
/-- What lies above a bound is left by a turn of what lies below it. -/
theorem Play.turn {w0 W w1 : World} {T M : Nat} {c : Cfg} {rs rh n ver : Nat} {es : List (KO × NE)} {v : Value} {l : List It} (h : Play w0 W T M c rs rh n ver es v l) {fp fp' : List Nat} (hu : Upd W w1 fp fp') (hfp : ∀ r ∈ fp, r < w0.heap.size) :
    ∃ w2, w2.heap.size = w0.heap.size ∧ Play w2 w1 T M c rs rh n ver es v l := by
  have hk : ∀ r, w0.heap.size ≤ r → r < W.heap.size → w1.heap[r]? = W.heap[r]? := fun r h1 h2 => hu.block r h2 (fun hm => by have := hfp r hm; omega)
  obtain ⟨e, hb⟩ := cutW_below (w := w1) (n := w0.heap.size) (Nat.le_trans h.base.size hu.size)
  have hT : w0.heap.size ≤ T := h.above T (by simp [sfp])
  have hM : w0.heap.size ≤ M := h.above M (by simp [sfp])
  refine ⟨cutW w1 w0.heap.size, e, ⟨⟨(hk T hT h.at_.ltT).trans h.at_.cell, h.at_.map.block (hk M hM h.at_.map.lt), fun p hp => (h.at_.node p hp).kept (fun r hr => hk r (h.fresh p hp r hr) ((h.at_.node p hp).lt r hr)), h.at_.pair, h.at_.off, h.at_.ne⟩, ?_, h.tells, hb, ?_, ?_, h.grown, h.vers, h.ver_, h.room⟩⟩
  · rw [e]
    exact ⟨h.items.1.keepP hu.size (fun b hb hlt => hk b hb.2 hlt), fun x hx => ⟨(h.items.2 x hx).1.keepP hu.size (fun b hb hlt => hk b hb.2 hlt), (h.items.2 x hx).2.keepP hu.size (fun b hb hlt => hk b hb.2 hlt)⟩⟩
  · rw [e]; exact h.above
  · rw [e]; exact h.fresh

/-- What Freeze gives: an entry for each key, the node frozen. -/
def frL (es : List (KO × NE)) (l : List It) : List En := (keysI l).map fun q => (q, blkOf es q)
def ndF (es : List (KO × NE)) (x : En) : Nd := ((es.find? (fun p => p.1.1 = x.1)).map (fun p => frz p.2.2.1)).getD nd0
end

section
set_option linter.unusedSimpArgs false
set_option linter.unusedVariables false
open Go.RowKit Go.Lib Go.Sort
end

section
set_option linter.unusedSimpArgs false
set_option linter.unusedVariables false
open Go.RowKit Go.Lib Go.Sort
end

section
set_option linter.unusedSimpArgs false
set_option linter.unusedVariables false
open Go.RowKit Go.Lib Go.Sort

structure Cold (w0 W : World) (T M : Nat) (c : Cfg) (rs rh n ver : Nat) (es : List (KO × NE)) (ve : Value) (fl : List En) (v : Value) (l : List It) : Prop where
  at_ : SAt W T M c ver es rs rh
  items : ItemsIn (fun b => b ∉ sfp T M es) W v l
  rows : RowG (fun b => b ∉ sfp T M es) 3 enC W ve fl
  told : ∀ i (h : i < l.length) (h2 : i < fl.length), fl[i].1 = l[i].key ∧ ∃ y fp, NodeIn W fl[i].2 y rs rh fp ∧ y.frz = true ∧ sameN y l[i].nd ∧ ∀ r ∈ fp, r ∉ sfp T M es
  len : fl.length = l.length
  base : Below w0.heap.size w0 W
  above : ∀ r ∈ sfp T M es, w0.heap.size ≤ r
  grown : Grown n ver (ab es)
  ver_ : ver ≤ 1000 * n
theorem Cold.below {w0 W W' : World} {T M : Nat} {c : Cfg} {rs rh n ver : Nat} {es : List (KO × NE)} {ve : Value} {fl : List En} {v : Value} {l : List It} (h : Cold w0 W T M c rs rh n ver es ve fl v l) (hb : Below W.heap.size W W') : Cold w0 W' T M c rs rh n ver es ve fl v l :=
  ⟨h.at_.below hb, h.items.below hb, h.rows.below hb, fun i h1 h2 => by
    obtain ⟨a1, y, fp, a2, a3⟩ := h.told i h1 h2
    exact ⟨a1, y, fp, a2.below hb, a3⟩, h.len, bthen h.base hb, h.above, h.grown, h.ver_⟩
end

end Go.Proofs.YtmniiodpbebnmaaGreat
