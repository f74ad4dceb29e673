/- The stable order: insertion of blocks whose places rise; what comes of it is core's mergeSort; slices.swapRange and rotate at entries, walked. -/
import Derived.Test.YtmniiodpbebnmaaGreatC20
import Derived.Test.YtmniiodpbebnmaaGreatC19
import Derived.Test.YtmniiodpbebnmaaGreatC15
import Derived.BigRegion
import Derived.Shelf.SlSortCmp.QuietGrown
import Derived.Shelf.SlSortFuncK.SWK
namespace Go.Proofs.YtmniiodpbebnmaaGreat

section
set_option linter.unusedSimpArgs false
set_option linter.unusedVariables false
open Go.Sort

section
variable {α : Type} (lt : α → α → Bool)
def leS (x y : α) : Bool := !lt y x
/-- Less, whatever the places. -/
def ltP (x y : α × Nat) : Bool := lt x.1 y.1
/-- Less, those alike by their places. -/
def ltZ (x y : α × Nat) : Bool := !List.zipIdxLE (leS lt) y x
def RZ (x y : α × Nat) : Prop := List.zipIdxLE (leS lt) x y = true
variable {lt}
theorem leS_trans (h : SWO lt) (a b c : α) (h1 : leS lt a b = true) (h2 : leS lt b c = true) : leS lt a c = true := by
  unfold leS at *
  simp only [Bool.not_eq_true'] at *
  exact h.ntrans _ _ _ h2 h1
theorem leS_total (h : SWO lt) (a b : α) : (leS lt a b || leS lt b a) = true := by
  unfold leS
  cases h1 : lt b a with
  | false => rfl
  | true => rw [h.asymmA h1]; rfl
theorem RZ_trans (h : SWO lt) (x y z : α × Nat) (h1 : RZ lt x y) (h2 : RZ lt y z) : RZ lt x z := List.zipIdxLE_trans (leS_trans h) x y z h1 h2
theorem RZ_total (h : SWO lt) (x y : α × Nat) : RZ lt x y ∨ RZ lt y x := by
  have := List.zipIdxLE_total (leS_total h) x y
  simpa [RZ] using this
theorem swo_ltZ (h : SWO lt) : SWO (ltZ lt) := by
  refine ⟨fun x => ?_, fun x y z h1 h2 => ?_, fun x y z h1 h2 => ?_⟩
  · unfold ltZ
    rcases RZ_total h x x with k | k <;> (unfold RZ at k; rw [k]; rfl)
  · unfold ltZ at *
    simp only [Bool.not_eq_true'] at *
    cases k : List.zipIdxLE (leS lt) z x with
    | false => rfl
    | true =>
      rcases RZ_total h x y with k2 | k2
      · have := RZ_trans h z x y k k2
        unfold RZ at this; rw [this] at h2; cases h2
      · unfold RZ at k2; rw [k2] at h1; cases h1
  · unfold ltZ at *
    simp only [Bool.not_eq_false'] at *
    exact RZ_trans h z y x h2 h1
theorem ltZ_of {x y : α × Nat} (h : y.2 < x.2) : ltP lt x y = ltZ lt x y := by
  unfold ltP ltZ List.zipIdxLE leS
  cases h1 : lt x.1 y.1 <;> cases h2 : lt y.1 x.1 <;> simp <;> omega
theorem RZ_of_lt (h : SWO lt) {x y : α × Nat} (h1 : ltP lt x y = true) : RZ lt x y := by
  unfold ltP at h1
  unfold RZ List.zipIdxLE leS
  rw [h1, h.asymmA h1]; simp
theorem RZ_of_not {x y : α × Nat} (h1 : ltP lt y x = false) (h2 : x.2 ≤ y.2) : RZ lt x y := by
  unfold ltP at h1
  unfold RZ List.zipIdxLE leS
  rw [h1]
  simp only [Bool.not_false, if_true]
  split <;> simp [h2]
theorem ordZ (h : SWO lt) : Ord (ltP lt) (RZ lt) := ⟨RZ_trans h, fun x y => RZ_of_lt h⟩
/-- A list with its places, as a row. -/
def zipA (l : List α) : Array (α × Nat) := l.zipIdx.toArray
theorem zipA_size (l : List α) : (zipA l).size = l.length := by simp [zipA]
end

section
variable {α : Type} [Inhabited α] {lt : α → α → Bool}
theorem up_of_sorted {a b : Nat} {d : Array (α × Nat)} (h : SortedIn (ltZ lt) a b d) : Up (RZ lt) a b d := by
  intro i j h1 h2 h3
  have := h i j h1 h2 h3
  unfold ltZ at this
  simpa [RZ] using this
/-- Places rise. -/
def Rise (a b : Nat) (d : Array (α × Nat)) : Prop := ∀ i j, a ≤ i → i < j → j < b → (d[i]!).2 < (d[j]!).2
theorem insInner_same (a : Nat) : ∀ (j : Nat) (d : Array (α × Nat)), (∀ t, a ≤ t → t < j → (d[t]!).2 < (d[j]!).2) → j < d.size → insInner (ltP lt) a j d = insInner (ltZ lt) a j d
  | 0, d, _, _ => rfl
  | j + 1, d, hd, hj => by
    unfold insInner
    by_cases h : j + 1 > a
    · rw [ltZ_of (hd j (by omega) (by omega)), insInner_same a j (swp d (j + 1) j) (fun t h1 h2 => by
        rw [swp_right d _ _ (by omega), swp_other d _ _ _ (by omega) (by omega)]; exact hd t h1 (by omega)) (by rw [size_swp]; omega)]
    · rw [if_neg (by simp [h]), if_neg (by simp [h])]
theorem insInner_perm (l : α × Nat → α × Nat → Bool) (a b : Nat) : ∀ (j : Nat) (d : Array (α × Nat)), a ≤ j → j < b → b ≤ d.size → PermIn a b d (insInner l a j d)
  | 0, d, _, _, _ => by unfold insInner; exact permIn_refl d a b
  | j + 1, d, h1, h2, h3 => by
    unfold insInner
    split
    · rename_i hc
      simp only [Bool.and_eq_true, decide_eq_true_eq] at hc
      exact permIn_trans _ _ _ a b (swp_permIn d a b (j + 1) j (by omega) (by omega) (by omega) (by omega) h3) (insInner_perm l a b j _ (by omega) (by omega) (by rw [size_swp]; exact h3))
    · exact permIn_refl d a b
theorem insOuter_same (a b : Nat) : ∀ (n i : Nat) (d : Array (α × Nat)), b - i = n → a < i → b ≤ d.size → (∀ t u, a ≤ t → t < u → i ≤ u → u < b → (d[t]!).2 < (d[u]!).2) → insOuter (ltP lt) a b i d = insOuter (ltZ lt) a b i d
  | 0, i, d, hn, _, _, _ => by
    rw [insOuter, if_neg (by omega), insOuter, if_neg (by omega)]
  | n + 1, i, d, hn, hai, hb, hd => by
    have hi : i < b := by omega
    rw [insOuter, if_pos hi, insInner_same a i d (fun t h1 h2 => hd t i h1 h2 (Nat.le_refl _) hi) (by omega)]
    conv => rhs; rw [insOuter, if_pos hi]
    have hp := insInner_perm (ltZ lt) a (i + 1) i d (by omega) (by omega) (by omega)
    refine insOuter_same a b n (i + 1) _ (by omega) (by omega) (by rw [hp.1]; exact hb) ?_
    intro t u h1 h2 h3 h4
    rw [at_out hp (i := u) (Or.inr h3)]
    by_cases h5 : t < i + 1
    · exact permIn_all d _ a (i + 1) (fun x => x.2 < (d[u]!).2) (by omega) hp (fun s p q => hd s u p (by omega) (by omega) h4) t h1 h5
    · rw [at_out hp (i := t) (Or.inr (by omega))]
      exact hd t u h1 h2 (by omega) h4
theorem ins_block (h : SWO lt) {a b : Nat} {d : Array (α × Nat)} (hab : a ≤ b) (hb : b ≤ d.size) (hr : Rise a b d) :
    PermIn a b d (insertionSort (ltP lt) d a b) ∧ Up (RZ lt) a b (insertionSort (ltP lt) d a b) := by
  have e : insertionSort (ltP lt) d a b = insertionSort (ltZ lt) d a b := insOuter_same a b _ (a + 1) d rfl (by omega) hb (fun t u h1 h2 h3 h4 => hr t u h1 h2 h4)
  rw [e]
  obtain ⟨h1, h2⟩ := insertionSort_holds (swo_ltZ h) d a b hab hb
  exact ⟨h1, up_of_sorted h2⟩
theorem crs_of {a m b : Nat} {d : Array (α × Nat)} (h : ∀ i j, a ≤ i → i < m → m ≤ j → j < b → (d[i]!).2 ≤ (d[j]!).2) : Crs (ltP lt) (RZ lt) a m b d :=
  fun i j h1 h2 h3 h4 h5 => RZ_of_not h5 (h i j h1 h2 h3 h4)
theorem zipA_at (l : List α) (i : Nat) (h : i < l.length) : (zipA l)[i]! = (l[i], i) := by
  unfold zipA
  rw [getElem!_pos _ i (by simpa using h)]
  simp
/-- What is sorted so is core's mergeSort. -/
theorem stable_end (h : SWO lt) (l : List α) (d : Array (α × Nat)) (hp : PermIn 0 l.length (zipA l) d) (hu : Up (RZ lt) 0 l.length d) : d.toList.map (·.1) = l.mergeSort (leS lt) := by
  have hsz : d.size = l.length := by rw [hp.1, zipA_size]
  have hperm : d.toList.Perm l.zipIdx := by
    have h1 := hp.2.2
    rw [← hsz, Array.extract_size] at h1
    have h2 : (zipA l).extract 0 d.size = zipA l := by rw [hsz, ← zipA_size l, Array.extract_size]
    rw [h2] at h1
    simpa [zipA] using h1
  have e : d.toList = l.zipIdx.mergeSort (List.zipIdxLE (leS lt)) := by
    refine List.Perm.eq_of_pairwise (le := fun x y => List.zipIdxLE (leS lt) x y = true) ?_ ?_ (List.pairwise_mergeSort (List.zipIdxLE_trans (leS_trans h)) (List.zipIdxLE_total (leS_total h)) _) (hperm.trans (List.mergeSort_perm _ _).symm)
    · rintro ⟨a, i⟩ ⟨b, j⟩ ha hb h1 h2
      have ha := hperm.mem_iff.1 ha
      rw [List.mem_mergeSort] at hb
      have hij : i = j := by
        unfold List.zipIdxLE at h1 h2
        revert h1 h2
        cases leS lt a b <;> cases leS lt b a <;> simp <;> omega
      subst hij
      have ka := List.mem_zipIdx ha
      have kb := List.mem_zipIdx hb
      simp only [Prod.mk.injEq, and_true]
      rw [ka.2.2, kb.2.2]
    · rw [List.pairwise_iff_getElem]
      intro i j hi hj hij
      have := hu i j (Nat.zero_le _) hij (by simpa [hsz] using hj)
      rw [getElem!_pos d i (by simpa using hi), getElem!_pos d j (by simpa using hj)] at this
      simpa [RZ] using this
  rw [e]
  exact List.mergeSort_zipIdx
end
end

section
set_option linter.unusedSimpArgs false
set_option linter.unusedVariables false
open Go.RowKit Go.Lib Go.Sort

/-- An entry and its place. -/
abbrev Pl := En × Nat
def plC (x : Pl) : List Value := enC x.1
theorem plC_len (x : Pl) : (plC x).length = 3 := rfl
theorem plC_one (x : Pl) : ∀ v ∈ plC x, v.oneCell' = true := eEn.one x.1
/-- The cells of a row's element. -/
theorem holds_at {W : World} {g : Nat} {d : Array Pl} (h : HoldsK plC 3 W g 0 d) {i : Nat} (hi : i < d.size) {x : Pl} (hx : d[i]! = x) :
    W.cell? ⟨g, i * 3, none⟩ = some (.int .u64 x.1.1.1) ∧ W.cell? ⟨g, i * 3 + 1, none⟩ = some (.int .u64 x.1.1.2) ∧ W.cell? ⟨g, i * 3 + 2, none⟩ = some (.pointer (some ⟨x.1.2, 0, none⟩)) := by
  subst hx
  have hc := HoldsK.cells h plC_len hi
  have h0 := hc 0 _ rfl
  have h1 := hc 1 _ rfl
  have h2 := hc 2 _ rfl
  rw [Addr.add_lit, Nat.zero_add] at h0 h1 h2
  exact ⟨h0, h1, h2⟩
theorem holds_free {W : World} {g : Nat} {d : Array Pl} (h : HoldsK plC 3 W g 0 d) {i : Nat} (hi : i < d.size) :
    W.frozen? ⟨g, i * 3, none⟩ = false ∧ W.frozen? ⟨g, i * 3 + 1, none⟩ = false ∧ W.frozen? ⟨g, i * 3 + 2, none⟩ = false := by
  have h0 := (h.cell (k := 3) hi (show 0 < 3 by decide)).2
  have h1 := (h.cell (k := 3) hi (show 1 < 3 by decide)).2
  have h2 := (h.cell (k := 3) hi (show 2 < 3 by decide)).2
  rw [Nat.zero_add] at h0 h1 h2
  exact ⟨h0, h1, h2⟩
/-- A row in a sort: the base world, what the row holds now. -/
structure InSort (w0 : World) (g : Nat) (d0 d : Array Pl) (w : World) : Prop where
  hg : g < w0.heap.size
  h0 : HoldsK plC 3 w0 g 0 d0
  hs : d.size = d0.size
  sw : SWK plC 3 w0 g 0 d w
theorem InSort.holds {w0 w : World} {g : Nat} {d0 d : Array Pl} (h : InSort w0 g d0 d w) : HoldsK plC 3 w g 0 d := h.sw.holds h.hg h.h0 h.hs
theorem InSort.drewN {w0 w : World} {g : Nat} {d0 d : Array Pl} (h : InSort w0 g d0 d w) (n : Nat) : InSort w0 g d0 d (w.drewN n) := ⟨h.hg, h.h0, h.hs, h.sw.drewN n⟩
theorem InSort.grown {w0 w : World} {g : Nat} {d0 d : Array Pl} (h : InSort w0 g d0 d w) (n : Nat) (os : Array Obj) : InSort w0 g d0 d (grow (w.drewN n) os) := by
  refine ⟨h.hg, h.h0, h.hs, ?_⟩
  obtain ⟨m, os', rfl⟩ := h.sw
  exact ⟨_, _, sortWorldK_grown_c plC 3 w0 g 0 m n d os' os⟩
/-- An exchange: the row's cells, one by one. -/
theorem InSort.swap {w0 w : World} {g : Nat} {d0 d : Array Pl} (h : InSort w0 g d0 d w) {i j : Nat} (hi : i < d.size) (hj : j < d.size) {x y : Pl} (hx : d[i]! = x) (hy : d[j]! = y) :
    InSort w0 g d0 (swp d i j) ((((((w.setCell ⟨g, i * 3, none⟩ (.int .u64 y.1.1.1)).setCell ⟨g, i * 3 + 1, none⟩ (.int .u64 y.1.1.2)).setCell ⟨g, i * 3 + 2, none⟩ (.pointer (some ⟨y.1.2, 0, none⟩))).setCell ⟨g, j * 3, none⟩ (.int .u64 x.1.1.1)).setCell ⟨g, j * 3 + 1, none⟩ (.int .u64 x.1.1.2)).setCell ⟨g, j * 3 + 2, none⟩ (.pointer (some ⟨x.1.2, 0, none⟩))) := by
  have k := h.sw.swap plC_len h.hg i j hi hj
  rw [Nat.zero_add, Nat.zero_add, hx, hy] at k
  exact ⟨h.hg, h.h0, by rw [size_swp]; exact h.hs, k⟩
set_option maxRecDepth 100000 in
set_option maxHeartbeats 4000000 in
theorem swapRange_any (w0 : World) (g cap a b n : Nat) (d0 d : Array Pl) (w : World) (fv : Value) (hS : InSort w0 g d0 d w) (hab : a + n ≤ b) (hb : b + n ≤ d.size) (hsz : d.size ≤ 1000000) :
    Calls Tryz.prog 310 #[.slice (some ⟨g, 0, none⟩) d.size cap, .int .i64 a, .int .i64 b, .int .i64 n, fv] w fun e w' =>
      e = .returned (.tuple #[]) ∧ ∃ d', d'.size = d.size ∧ Swr d d' a b n ∧ PermIn a (b + n) d d' ∧ InSort w0 g d0 d' w' := by
  have HST := Lib.hid hS
  have HB := Lib.hid hb
  clear hS
  go_enter Tryz.func310, Tryz.ntmps310
  go_wp2
  go_loopg [10] n (fun gg s10 wr => ∃ (i : Nat) (dk : Array Pl), i ≤ n ∧ n - i ≤ gg ∧ s10 = .int .i64 i ∧ dk.size = d.size ∧ Hid (Swr d dk a b i) ∧ Hid (PermIn a (b + n) d dk) ∧ InSort w0 g d0 dk wr)
  case atStart => exact ⟨0, d, Nat.zero_le _, Nat.le_refl _, rfl, rfl, Lib.hid (Swr.zero d a b), Lib.hid (permIn_refl d _ _), HST.out⟩
  case round =>
    obtain ⟨i, dk, hi, hgg, rfl, hsk, HS, HP, hin⟩ := hrel
    rename World => wr
    have HIN := Lib.hid hin
    by_cases hlt : i < n
    · have l1 : a + i < dk.size := by omega
      have l2 : b + i < dk.size := by omega
      obtain ⟨x, hx⟩ : ∃ x, dk[a + i]! = x := ⟨_, rfl⟩
      obtain ⟨y, hy⟩ : ∃ y, dk[b + i]! = y := ⟨_, rfl⟩
      obtain ⟨c1, c2, c3⟩ := holds_at hin.holds l1 hx
      obtain ⟨c4, c5, c6⟩ := holds_at hin.holds l2 hy
      obtain ⟨f1, f2, f3⟩ := holds_free hin.holds l1
      obtain ⟨f4, f5, f6⟩ := holds_free hin.holds l2
      have HW := Lib.hid (hin.swap l1 l2 hx hy)
      have HS2 := Lib.hid (HS.out.step (show a + i < b by omega) l2)
      have HP2 := Lib.hid (permIn_trans _ _ _ _ _ HP.out (swp_permIn dk a (b + n) (a + i) (b + i) (by omega) (by omega) (by omega) (by omega) (by omega)))
      have e1 : ((a : Int) + (i : Int)).toNat = a + i := by omega
      have e2 : ((b : Int) + (i : Int)).toNat = b + i := by omega
      have p1 : (0 : Int) ≤ (a : Int) + (i : Int) := by omega
      have p2 : (0 : Int) ≤ (b : Int) + (i : Int) := by omega
      have r1 : (a : Int) + (i : Int) < (d.size : Int) := by omega
      have r2 : (b : Int) + (i : Int) < (d.size : Int) := by omega
      have u1 : IntKind.i64.wrap ((a : Int) + (i : Int)) = (a : Int) + (i : Int) := by rw [IntKind.wrap_i64]; omega
      have u2 : IntKind.i64.wrap ((b : Int) + (i : Int)) = (b : Int) + (i : Int) := by rw [IntKind.wrap_i64]; omega
      have hne : (a + i) * 3 ≠ (b + i) * 3 := by omega
      clear hin hx hy
      go_wp2_with fail
      go_region
      all_goals go_wp2
      go_roundg (n - (i + 1))
      case measure => omega
      case rel => exact ⟨i + 1, swp dk (a + i) (b + i), hlt, Nat.le_refl _, by go_num, by rw [size_swp]; exact hsk, HS2, HP2, HW.out.drewN 1⟩
    · obtain rfl : i = n := by omega
      go_wp2
      go_end0
      exact ⟨rfl, dk, hsk, HS.out, HP.out, HIN.out⟩

/-- All that is said of a rotation that is under way. -/
def RotOn (d dk : Array Pl) (a m b i j : Nat) : Prop := ∀ d', Rot dk d' (m - i) m (m + j) → Rot d d' a m b
set_option maxRecDepth 100000 in
set_option maxHeartbeats 4000000 in
theorem rotate_any (w0 : World) (g cap a m b : Nat) (d0 d : Array Pl) (w : World) (fv : Value) (hS : InSort w0 g d0 d w) (ham : a < m) (hmb : m < b) (hb : b ≤ d.size) (hsz : d.size ≤ 1000000) :
    Calls Tryz.prog 307 #[.slice (some ⟨g, 0, none⟩) d.size cap, .int .i64 a, .int .i64 m, .int .i64 b, fv] w fun e w' =>
      e = .returned (.tuple #[]) ∧ ∃ d', d'.size = d.size ∧ Rot d d' a m b ∧ PermIn a b d d' ∧ InSort w0 g d0 d' w' := by
  have HST := Lib.hid hS
  have CS := Lib.hid (fun (a b n : Nat) (dk : Array Pl) (W : World) (h : InSort w0 g d0 dk W) (hs : dk.size = d.size) (h1 : a + n ≤ b) (h2 : b + n ≤ d.size) => by
    have := swapRange_any w0 g cap a b n d0 dk W fv h h1 (by omega) (by omega)
    rwa [hs] at this)
  clear hS
  go_enter Tryz.func307, Tryz.ntmps307
  go_wp2
  go_loopg [10, 11] (b - a) (fun gg s10 s11 wr => ∃ (i j : Nat) (dk : Array Pl), 0 < i ∧ 0 < j ∧ i ≤ m - a ∧ j ≤ b - m ∧ i + j ≤ gg ∧ s10 = .int .i64 i ∧ s11 = .int .i64 j ∧ dk.size = d.size ∧ Hid (RotOn d dk a m b i j) ∧ Hid (PermIn a b d dk) ∧ InSort w0 g d0 dk wr)
  case atStart => exact ⟨m - a, b - m, d, by omega, by omega, Nat.le_refl _, Nat.le_refl _, by omega, by first | go_num | (congr 1; omega), by first | go_num | (congr 1; omega), rfl, Lib.hid (fun d' h => by rwa [show m - (m - a) = a by omega, show m + (b - m) = b by omega] at h), Lib.hid (permIn_refl d _ _), HST.out⟩
  case round =>
    obtain ⟨i, j, dk, hi0, hj0, hi, hj, hgg, rfl, rfl, hsk, HR, HP, hin⟩ := hrel
    rename World => wr
    have HIN := Lib.hid hin
    have HSK := Lib.hid hsk
    clear hin hsk
    have u1 : (m : Int) - (i : Int) = ((m - i : Nat) : Int) := by omega
    by_cases hij : j < i
    · have qn : ((i : Int) != (j : Int)) = true := by simp; omega
      have qn2 : ((i : Int) == (j : Int)) = false := by simp; omega
      have u2 : (i : Int) - (j : Int) = ((i - j : Nat) : Int) := by omega
      go_wp2_with (go_at_call 310
                   refine (CS.out (m - i) m j dk wr HIN.out HSK.out (by omega) (by omega)).mono ?_
                   rintro e w1 ⟨rfl, d1, hs1, hsw, hp, hin1⟩
                   have HS1 := Lib.hid (show d1.size = d.size from hs1)
                   have HSW := Lib.hid hsw
                   have HP1 := Lib.hid (permIn_trans _ _ _ a b HP.out (permIn_mono dk d1 _ _ a b (by omega) (by omega) (by have := HSK.out; omega) hp))
                   have HIN1 := Lib.hid hin1
                   clear hs1 hsw hp hin1)
      go_roundg i
      case measure => omega
      case rel => exact ⟨i - j, j, d1, by omega, hj0, by omega, hj, by omega, by first | rfl | go_num, rfl, HS1.out, Lib.hid (fun d' h => HR.out d' (Rot.left HSW.out (by omega) hij h)), HP1, HIN1.out⟩
    · by_cases hji : i < j
      · have qn : ((i : Int) != (j : Int)) = true := by simp; omega
        have qn2 : ((i : Int) == (j : Int)) = false := by simp; omega
        have u2 : (j : Int) - (i : Int) = ((j - i : Nat) : Int) := by omega
        have u3 : (m : Int) + (j : Int) - (i : Int) = ((m + j - i : Nat) : Int) := by omega
        go_wp2_with (go_at_call 310
                     refine (CS.out (m - i) (m + j - i) i dk wr HIN.out HSK.out (by omega) (by omega)).mono ?_
                     rintro e w1 ⟨rfl, d1, hs1, hsw, hp, hin1⟩
                     have HS1 := Lib.hid (show d1.size = d.size from hs1)
                     have HSW := Lib.hid hsw
                     have HP1 := Lib.hid (permIn_trans _ _ _ a b HP.out (permIn_mono dk d1 _ _ a b (by omega) (by omega) (by have := HSK.out; omega) hp))
                     have HIN1 := Lib.hid hin1
                     clear hs1 hsw hp hin1)
        go_roundg j
        case measure => omega
        case rel => exact ⟨i, j - i, d1, hi0, by omega, hi, by omega, by omega, rfl, by first | rfl | go_num, HS1.out, Lib.hid (fun d' h => HR.out d' (Rot.right HSW.out (by omega) hji h)), HP1, HIN1.out⟩
      · obtain rfl : i = j := by omega
        have qn : ((i : Int) != (i : Int)) = false := by simp
        go_wp2_with (go_at_call 310
                     refine (CS.out (m - i) m i dk wr HIN.out HSK.out (by omega) (by omega)).mono ?_
                     rintro e w1 ⟨rfl, d1, hs1, hsw, hp, hin1⟩
                     have HS1 := Lib.hid (show d1.size = d.size from hs1)
                     have HSW := Lib.hid hsw
                     have HP1 := Lib.hid (permIn_trans _ _ _ a b HP.out (permIn_mono dk d1 _ _ a b (by omega) (by omega) (by have := HSK.out; omega) hp))
                     have HIN1 := Lib.hid hin1
                     clear hs1 hsw hp hin1)
        go_end0
        refine ⟨rfl, d1, HS1.out, HR.out d1 ?_, HP1.out, HIN1.out⟩
        have := Rot.half (a := m - i) (m := m) (b := m + i) (by rw [show m - (m - i) = i by omega]; exact HSW.out) (by omega) (by omega) (by omega)
        exact this
end

end Go.Proofs.YtmniiodpbebnmaaGreat
