/- Contracts of the shelf, laid at this program (by lay-plain.mjs; numbers by name); ident.Rising, walked over the contracts of Clone, SortFunc, Compact; Equal lists, or not: slices.Equal, flywheelref08.Same, flywheelref14.Same; Alike, at nodes and at loads; A cut's Keys, and what of two cuts differs; Two stripes in one memory: what one's Freeze leaves of the other; what Freeze gives. -/
import Derived.Test.YtfegielnmdppgaaGreatJ37
import Derived.Test.YtfegielnmdppgaaGreatJ24
import Derived.Shelf.SlicesE.Clone
import Derived.Test.YtfegielnmdppgaaGreatJ07
import Derived.Test.YtfegielnmdppgaaGreatJ02
import Derived.Test.YtfegielnmdppgaaGreatJ03
import Derived.Lib.SmallJoins
import Derived.Test.YtfegielnmdppgaaGreatJ05
import Derived.Test.YtfegielnmdppgaaGreatJ06
import Derived.Test.YtfegielnmdppgaaGreatJ12
import Derived.Test.YtfegielnmdppgaaGreatJ17
import Derived.Test.YtfegielnmdppgaaGreatJ32
namespace Go.Proofs.YtfegielnmdppgaaGreat

section
set_option linter.unusedSimpArgs false
set_option linter.unusedVariables false
open Go.Shelf
end

section
set_option linter.unusedSimpArgs false
set_option linter.unusedVariables false
open Go.RowKit Go.Lib Go.Sort

def CloneSays (w : World) (l : List Ky) (e : Ending) (w' : World) : Prop :=
  ∃ v', e = .returned v' ∧ w'.ownsRow w.heap.size 40 2 v' l.length (cellsK l) ∧ Below w.heap.size w w'

set_option maxRecDepth 100000 in
set_option maxHeartbeats 2000000 in
theorem clone_any (v : Value) (l : List Ky) (w : World) (hv : KeysIn w v l) (hl : l.length ≤ 1000000) :
    Calls Tryz.prog 140 #[v] w (CloneSays w l) := by
  obtain ⟨A, c, rfl, h⟩ := hv
  obtain ⟨i0, hi0, hz0, hz1, hz2⟩ := info_parts key_info
  cases A with
  | none =>
    have h0 : l.length = 0 := by
      rcases Nat.eq_zero_or_pos l.length with h0 | h0
      · exact h0
      · obtain ⟨_, _, h1, _⟩ := h h0
        cases h1
    obtain rfl : l = [] := List.eq_nil_of_length_eq_zero h0
    clear h h0
    have q22 : ∀ (w : World) (a : Option Addr) (n c n' c' : Nat), (binOp .eql 70 (.slice a n c) (.slice none n' c')).run Tryz.prog w = .ok (.bool a.isNone) w := fun w a n c n' c' => Lib.run_eql_slice_nil w _ _ a n c n' c' Tryz.underlying70
    go_enter Tryz.func140, Tryz.ntmps140
    go_wp2
    go_ret
    exact ⟨_, rfl, ⟨rfl, .inl ⟨rfl, rfl⟩⟩, Below.refl _ _⟩
  | some a =>
    have hc : ∀ o : Obj, ∀ j u, (cellsK l)[j]? = some u → (w.alloc o).cell? (a.add j) = some u := by
      intro o j u hu
      have hj := (List.getElem?_eq_some_iff.1 hu).1
      rw [cellsK_len] at hj
      obtain ⟨b, o', e, hb, h1⟩ := h (by omega)
      injection e with e
      subst e
      rw [show (Addr.mk b o' none).add j = ⟨b, o' + j, none⟩ from by unfold Addr.add; split <;> simp_all]
      exact (World.cell?_alloc_lt w o ⟨b, o' + j, none⟩ hb).trans (h1 j u hu)
    have HC := Lib.hid hc
    clear h hc
    have q22 : ∀ (w : World) (a : Option Addr) (n c n' c' : Nat), (binOp .eql 70 (.slice a n c) (.slice none n' c')).run Tryz.prog w = .ok (.bool a.isNone) w := fun w a n c n' c' => Lib.run_eql_slice_nil w _ _ a n c n' c' Tryz.underlying70
    go_enter Tryz.func140, Tryz.ntmps140
    go_wp2_with (at_builtin; refine wpList_append_own _ rfl _ _ 70 rfl w.heap.size 40 i0 _ 2 16 Tryz.underlying70 hi0 hz0 hz1 hz2 rfl (by decide) _ _ _ rfl (World.ownsRow_made w #[] 0 (Nat.le_refl _) (Nat.zero_le _) (by simp)) a l.length c (cellsK l) rfl (cellsK_len l) (HC.out _) (cellsK_one l) (by simp only [maxLen]; omega) (by omega) (by simp) ?_; intro v' w1 hown hgrow _)
    go_ret
    refine ⟨v', rfl, ?_, (balloc (Below.refl _ w) _).grown hgrow (by simp) (fun k hk => by have hk' : some w.heap.size = some k := hk; injection hk'; omega)⟩
    rw [Nat.zero_add, List.nil_append] at hown
    exact hown

theorem holds_own {w : World} {base g cap : Nat} {l : List Ky} {T : TypeId} (h : w.ownsRow base T 2 (.slice (some ⟨g, 0, none⟩) l.length cap) l.length (cellsK l)) :
    HoldsK encK 2 w g 0 l.toArray ∧ g < w.heap.size ∧ base ≤ g ∧ l.length ≤ cap := by
  have hlt := h.lt g rfl
  have hc := h.cellAt
  rcases h.2 with ⟨hv, _⟩ | ⟨g', cap', cur, hv, hb, hg, hcap, _⟩
  · cases hv
  · injection hv with e1 e2 e3
    injection e1 with e1
    injection e1 with e1
    subst e1 e3
    refine ⟨fun j hj => ?_, hlt.2, hb, hcap⟩
    have hj' : j < l.length * 2 := by simpa using hj
    refine ⟨?_, Go.Joins.unfrozen_of_block hg (0 + j)⟩
    rw [Nat.zero_add, hc j hj', flat_cells, List.getElem?_eq_getElem (by rw [cellsK_len]; exact hj')]
    simp [cellsK_len, hj']

/-! ### Cmp as the sort asks for it -/
theorem ltOf_keyR : (ltOf fun x y : Ky => cmpI x.1 x.2 y.1 y.2) = ltK := by
  funext x y
  show decide (cmpI x.1 x.2 y.1 y.2 < 0) = ltK x y
  unfold ltK
  by_cases h1 : x.1 = y.1
  · by_cases h2 : x.2 = y.2
    · have : cmpI x.1 x.2 y.1 y.2 = 0 := by simp [cmpI, h1, h2]
      rw [this]
      simp [h1, h2]
    · by_cases h3 : x.2 < y.2
      · have : cmpI x.1 x.2 y.1 y.2 = -1 := by simp [cmpI, h1, h2, h3]
        rw [this]
        simp [h1, h3]
      · have : cmpI x.1 x.2 y.1 y.2 = 1 := by simp [cmpI, h1, h2, h3]
        rw [this]
        simp [h1, h3]
  · by_cases h3 : x.1 < y.1
    · have : cmpI x.1 x.2 y.1 y.2 = -1 := by simp [cmpI, h1, h3]
      rw [this]
      simp [h1, h3]
    · have : cmpI x.1 x.2 y.1 y.2 = 1 := by simp [cmpI, h1, h3]
      rw [this]
      simp [h1, h3]

theorem swoKR : SWO (ltOf fun x y : Ky => cmpI x.1 x.2 y.1 y.2) := by
  rw [ltOf_keyR]
  refine ⟨ltK_irrefl, fun x y z h1 h2 => ltK_trans h1 h2, fun x y z h1 h2 => ?_⟩
  cases h : ltK x z with
  | false => rfl
  | true =>
    cases h3 : ltK y x with
    | true => rw [ltK_trans h3 h] at h2; exact h2
    | false =>
      have := ltK_total h1 h3
      subst this
      rw [h] at h2
      exact h2

set_option maxRecDepth 100000 in
set_option maxHeartbeats 1000000 in
theorem cmp_laysR (x y : Ky) (W : World) : Calls Tryz.prog 69 #[.agg #[.int .u64 x.1, .int .u64 x.2], .agg #[.int .u64 y.1, .int .u64 y.2]] W fun e w' => e = .returned (.int .i64 (cmpI x.1 x.2 y.1 y.2)) ∧ ∃ q os', w' = grow (W.drewN q) os' := by
  obtain ⟨a, b⟩ := x
  obtain ⟨c, d⟩ := y
  simp only
  by_cases e1 : a = c
  · subst e1
    by_cases e2 : b = d
    · subst e2
      have hv : cmpI a b a b = 0 := by simp [cmpI]
      rw [hv]
      clear hv
      go_enter Tryz.func69, Tryz.ntmps69
      go_wp2
      go_ret
      exact ⟨rfl, 0, _, by rw [alloc_eq_grow, alloc_eq_grow, grow_grow]; rfl⟩
    · have q : ((b : Int) == (d : Int)) = false := by simp; omega
      by_cases e3 : b < d
      · have hv : cmpI a b a d = -1 := by simp [cmpI, e2, e3]
        rw [hv]
        clear hv
        go_enter Tryz.func69, Tryz.ntmps69
        go_wp2
        go_ret
        exact ⟨rfl, 0, _, by rw [alloc_eq_grow, alloc_eq_grow, grow_grow]; rfl⟩
      · have hv : cmpI a b a d = 1 := by simp [cmpI, e2, e3]
        rw [hv]
        clear hv
        go_enter Tryz.func69, Tryz.ntmps69
        go_wp2
        go_ret
        exact ⟨rfl, 0, _, by rw [alloc_eq_grow, alloc_eq_grow, grow_grow]; rfl⟩
  · have q : ((a : Int) == (c : Int)) = false := by simp; omega
    by_cases e3 : a < c
    · have hv : cmpI a b c d = -1 := by simp [cmpI, e1, e3]
      rw [hv]
      clear hv
      go_enter Tryz.func69, Tryz.ntmps69
      go_wp2
      go_ret
      exact ⟨rfl, 0, _, by rw [alloc_eq_grow, alloc_eq_grow, grow_grow]; rfl⟩
    · have hv : cmpI a b c d = 1 := by simp [cmpI, e1, e3]
      rw [hv]
      clear hv
      go_enter Tryz.func69, Tryz.ntmps69
      go_wp2
      go_ret
      exact ⟨rfl, 0, _, by rw [alloc_eq_grow, alloc_eq_grow, grow_grow]; rfl⟩

theorem cmpLays_keyR (blk off size : Nat) (w : World) : CmpLays Tryz.prog 69 #[] encK 2 (fun x y : Ky => cmpI x.1 x.2 y.1 y.2) blk off size w :=
  fun _ _ _ _ x y => cmp_laysR x y _

/-- The sort at keys, from a row of the call's own. -/
theorem sort_key (g cap : Nat) (l : List Ky) (w : World) (hH : HoldsK encK 2 w g 0 l.toArray) (hg : g < w.heap.size) (hl : l.length ≤ 1000000) :
    Calls Tryz.prog 141 #[.slice (some ⟨g, 0, none⟩) l.length cap, .func (.func 69) #[] #[]] w fun e w' =>
      e = .returned (.tuple #[]) ∧ ∃ n os, w' = sortWorldK encK 2 w g 0 n (l.mergeSort fun x y => !ltK y x).toArray os := by
  have eg : ∀ args w, (callFunc 69 args).run Tryz.prog w = .ok (.enter 69 args) w := enters_of Tryz.func69 (by kernel_rfl) rfl
  have h := AnyQ.slices_SortFunc_total sortK 2 Tryz.isAgg40 Tryz.sizeOf40 encK (fun _ => rfl) encK_one (fun x y : Ky => cmpI x.1 x.2 y.1 y.2) swoKR 69 #[] g 0 cap l.toArray w eg (cmpLays_keyR g 0 l.toArray.size w) hH hg (by simp; omega)
    (fun x y h1 h2 => by rw [ltOf_keyR] at h1 h2; exact ltK_total h1 h2)
  rw [ltOf_keyR] at h
  exact h

theorem below_grow {B : Nat} {w0 w : World} (h : Below B w0 w) (hB : B ≤ w.heap.size) (os : Array Obj) : Below B w0 (grow w os) :=
  ⟨h.os, h.tape, h.output, by have := h.size; simp [grow]; omega, fun k hk => by
    rw [← h.block k hk]
    simp [grow, Array.getElem?_append, show k < w.heap.size by omega]⟩

theorem putRowK_size (w : World) (blk off : Nat) (d : Array Ky) : (putRowK encK 2 w blk off d).heap.size = w.heap.size := by simp [putRowK, putRow, mapBlock]

set_option maxRecDepth 100000 in
set_option maxHeartbeats 1000000 in
theorem compact_nil (w : World) : Calls Tryz.prog 142 #[.slice none 0 0] w fun e w' => e = .returned (.slice none 0 0) ∧ w' = w := by
  go_enter Tryz.func142, Tryz.ntmps142
  go_wp2
  go_ret
  exact ⟨rfl, rfl⟩

/-- The same, and the row is the caller's own. -/
def RisW (w : World) (l : List Ky) (e : Ending) (w' : World) : Prop := ∃ v', e = .returned v' ∧ KeysIn w' v' l ∧ Below w.heap.size w w' ∧ w'.ownsRow w.heap.size 40 2 v' l.length (cellsK l)
/-- What stands behind the three. -/
theorem rising_end {w w1 w2 w3 : World} {g n cap : Nat} {os : Array Obj} {l : List Ky} {e : Ending} (hb : Below w.heap.size w w1) (hown : w1.ownsRow w.heap.size 40 2 (.slice (some ⟨g, 0, none⟩) l.length cap) l.length (cellsK l)) (hH : HoldsK encK 2 w1 g 0 l.toArray) (hg : g < w1.heap.size) (hgb : w.heap.size ≤ g)
    (hw2 : w2 = sortWorldK encK 2 w1 g 0 n (l.mergeSort fun x y => !ltK y x).toArray os) (h : CompactSays w2 g 0 (l.mergeSort fun x y => !ltK y x).toArray cap e w3) : RisW w (risL l) e w3 := by
  obtain ⟨q, F, rfl, rfl, hF, hc⟩ := h
  rw [compact_sort] at hc ⊢
  have hs : (l.mergeSort fun x y => !ltK y x).toArray.size = l.toArray.size := by simp
  have hH2 : HoldsK encK 2 w2 g 0 (l.mergeSort fun x y => !ltK y x).toArray := by
    rw [hw2]
    exact holdsK_grow encK 2 _ os g 0 _ (by rw [putRowK_size]; exact hg) (holdsK_putRowK encK 2 _ g 0 l.toArray _ (holdsK_ahead encK 2 w1 n g 0 _ hH) hs)
  have hb1 : Below w.heap.size w (putRowK encK 2 (Sort.ahead w1 n) g 0 (l.mergeSort fun x y => !ltK y x).toArray) := below_putRow hb hgb
  have hb2 : Below w.heap.size w w2 := by
    rw [hw2]
    exact below_grow hb1 hb1.size os
  have hg2 : g < w2.heap.size := by
    rw [hw2]
    show g < (grow _ os).heap.size
    simp only [grow, Array.size_append, putRowK_size]
    show g < w1.heap.size + os.size
    omega
  refine ⟨_, rfl, ⟨_, _, rfl, fun hn => ⟨g, 0, rfl, ?_, fun j u hu => ?_⟩⟩, below_putRow hb2 hgb, ?_⟩
  · have := (below_putRow (enc := id) (q := q) (d := F) (Below.refl g w2) (Nat.le_refl g)).size
    omega
  · have hj := hc j u hu
    have hjs := (Array.getElem?_eq_some_iff.1 hj).1
    have hcell := cell?_putRow id (Sort.ahead w2 q) g 0 (flatK encK 2 (l.mergeSort fun x y => !ltK y x).toArray) F (holdsK_ahead encK 2 w2 q g 0 _ hH2) (by rw [hF]; simp) j hjs
    rw [hcell, getElem!_pos F j hjs]
    have := (Array.getElem?_eq_some_iff.1 hj).2
    simp [this]
  · rcases hown.2 with ⟨hv, _⟩ | ⟨g', cap', cur, hv, hbase, hg1, h1, h2, h3, h4⟩
    · cases hv
    · injection hv with e1 e2 e3
      injection e1 with e1
      injection e1 with e1
      subst e1 e3
      obtain ⟨c2, hc2, hs2⟩ : ∃ c2 : Array Value, w2.heap[g]? = some (.cells c2 40 (0, 0)) ∧ c2.size = cap * 2 := by
        refine ⟨putCells id 0 (flatK encK 2 (l.mergeSort fun x y => !ltK y x).toArray) cur, ?_, by simp [putCells, h3]⟩
        rw [hw2]
        exact (heap_grow_old (putRowK encK 2 (Sort.ahead w1 n) g 0 (l.mergeSort fun x y => !ltK y x).toArray) os (by rw [putRowK_size]; exact hg)).trans (putRow_heap (w := Sort.ahead w1 n) _ hg1)
      have hlr : (risL l).length ≤ l.length := len_risL l
      have hFs : F.size = l.length * 2 := by rw [hF]; simp
      have htk := take_put F.toList c2 (by rw [Array.length_toList, hFs, hs2]; omega)
      rw [Array.toArray_toList] at htk
      refine ⟨by rw [cellsK_len], .inr ⟨g, cap, _, rfl, hgb, putRow_heap (w := Sort.ahead w2 q) F hc2, by omega, h2, by simp [putCells, hs2], ?_⟩⟩
      have e1 : (putCells id 0 F c2).toList.take ((risL l).length * 2) = F.toList.take ((risL l).length * 2) := by
        have hFl : F.toList.length = l.length * 2 := by rw [Array.length_toList]; exact hFs
        rw [← htk, List.take_take, hFl]
        congr 1
        omega
      rw [e1]
      apply List.ext_getElem?
      intro i
      rw [List.getElem?_take]
      by_cases hi : i < (risL l).length * 2
      · rw [if_pos hi]
        have hil : i < (cellsK (risL l)).length := by rw [cellsK_len]; exact hi
        have := hc i _ (List.getElem?_eq_getElem hil)
        rw [Array.getElem?_toList, this, List.getElem?_eq_getElem hil]
      · rw [if_neg hi, List.getElem?_eq_none (by rw [cellsK_len]; omega)]

set_option maxRecDepth 100000 in
set_option maxHeartbeats 2000000 in
theorem rising_own (v : Value) (l : List Ky) (w : World) (hv : KeysIn w v l) (hl : l.length ≤ 1000000) :
    Calls Tryz.prog 77 #[v] w (RisW w (risL l)) := by
  have HC := Lib.hid (clone_any v l w hv hl)
  have hcl := len_risL l
  obtain ⟨A, c, rfl, _⟩ := id hv
  clear hv
  go_enter Tryz.func77, Tryz.ntmps77
  go_wp2_with (go_at_call 140; refine HC.out.mono ?_; rintro e w1 ⟨v1, rfl, hown, hb1⟩)
  rcases Go.Joins.ownsRow_forms hown with ⟨rfl, h0⟩ | ⟨g, cap, rfl⟩
  · obtain rfl : l = [] := List.eq_nil_of_length_eq_zero h0
    have hs := Lib.hid (AnyF.slices_SortFunc_none sortK none 0 (.func (.func 69) #[] #[]) w1)
    clear hown
    go_wp2_with (first
      | (go_at_call 141; refine hs.out.mono ?_; rintro e w2 ⟨rfl, rfl⟩)
      | (go_at_call 142; refine (compact_nil _).mono ?_; rintro e w3 ⟨rfl, rfl⟩))
    go_ret
    exact ⟨_, rfl, ⟨_, _, rfl, fun h => absurd h (by simp [risL])⟩, hb1, ⟨rfl, .inl ⟨rfl, rfl⟩⟩⟩
  · obtain ⟨hH, hg, hgb, hcap⟩ := holds_own hown
    have hs := Lib.hid (sort_key g cap l w1 hH hg hl)
    have HH := Lib.hid hH
    have HOW := Lib.hid hown
    have hsz : (l.mergeSort fun x y => !ltK y x).toArray.size = l.length := by simp
    clear hown hH
    go_wp2_with (first
      | (go_at_call 141; refine hs.out.mono ?_; rintro e w2 ⟨rfl, n, os, hw2⟩
         have hcc := Lib.hid (compact_any g 0 cap (l.mergeSort fun x y => !ltK y x).toArray w2 (by
           rw [hw2]
           exact holdsK_grow encK 2 _ os g 0 _ (by rw [putRowK_size]; exact hg) (holdsK_putRowK encK 2 _ g 0 l.toArray _ (holdsK_ahead encK 2 w1 n g 0 _ HH.out) (by simp))) (by simp; omega) (by simp; omega))
         rw [hsz] at hcc
         have HW := Lib.hid hw2
         clear hw2)
      | (go_at_call 142; refine hcc.out.mono ?_; intro e w3 hc3; obtain ⟨v3, rfl, hk3, hb3, ho3⟩ := rising_end hb1 HOW.out HH.out hg hgb HW.out hc3; clear hc3; obtain ⟨A3, c3, rfl, _⟩ := id hk3; have Hk3 := Lib.hid hk3; have Ho3 := Lib.hid ho3; clear hk3 ho3))
    go_ret
    exact ⟨_, rfl, Hk3.out, hb3, Ho3.out⟩
end

section
set_option linter.unusedSimpArgs false
set_option linter.unusedVariables false
open Go.RowKit Go.Lib Go.Sort

deriving instance DecidableEq for Adv
end

section
set_option linter.unusedSimpArgs false
set_option linter.unusedVariables false
open Go.RowKit Go.Lib Go.Sort

deriving instance DecidableEq for Pol
theorem heap_alloc_new2 (w : World) (o o2 : Obj) : ((w.alloc o).alloc o2).heap[w.heap.size + 1]? = some o2 := by
  have := heap_alloc_new (w.alloc o) o2
  simpa using this
end

section
set_option linter.unusedSimpArgs false
set_option linter.unusedVariables false
open Go.RowKit Go.Lib Go.Sort

theorem eKyC : EltOf 70 40 2 16 (.agg #[.int .u64 0, .int .u64 0]) keyC :=
  ⟨by kernel_rfl, by kernel_rfl, rfl, by decide, by decide, fun _ => rfl, fun x u hu => by
    simp only [keyC, List.mem_cons, List.not_mem_nil, or_false] at hu
    rcases hu with rfl | rfl <;> rfl⟩
theorem cellsK_row (l : List Ky) : cellsK l = cellsOfRow keyC l := by
  induction l with
  | nil => rfl
  | cons x l ih => simp [cellsK, cellsOfRow, keyC, List.flatMap_cons] at ih ⊢; try exact ih
theorem RisW.own {w w' : World} {l : List Ky} {e : Ending} (h : RisW w l e w') : ∃ A c, e = .returned (.slice A l.length c) ∧ OwnL keyC 40 2 w.heap.size w' (.slice A l.length c) l ∧ Below w.heap.size w w' := by
  obtain ⟨v, rfl, _, hb, ho⟩ := h
  rw [cellsK_row] at ho
  have ho : OwnL keyC 40 2 w.heap.size w' v l := ho
  obtain ⟨A, c, rfl⟩ := ho.form
  exact ⟨A, c, rfl, ho, hb⟩

set_option maxRecDepth 100000 in
set_option maxHeartbeats 8000000 in
theorem cutKeys_any (C : Nat) (ep : Int) (l : List En) (w : World) (h : CutIn w C ep l) (hl : l.length ≤ 1000) :
    Calls Tryz.prog 24 #[.pointer (some ⟨C, 0, none⟩)] w (RisW w (risL (l.map (·.1)))) := by
  obtain ⟨A, c, h1, h2⟩ := h
  have HX := Lib.hid h1
  have HR := Lib.hid h2
  obtain ⟨a1, a2, a3⟩ := box_cells (Below.refl _ _) h1
  have hl9 : l.length ≤ 9223372036854775807 := by omega
  clear h1 h2
  go_enter Tryz.func24, Tryz.ntmps24
  go_wp2_with fail
  clear a1 a2 a3
  go_loopg [3, 13] l.length (fun g s3 s13 wr => ∃ k : Nat, k ≤ l.length ∧ l.length - k ≤ g ∧ s13 = .int .i64 k ∧ OwnL keyC 40 2 w.heap.size wr s3 ((l.map (·.1)).take k) ∧ Below w.heap.size w wr)
  case atStart => exact ⟨0, Nat.zero_le _, Nat.le_refl _, rfl, by rw [List.take_zero]; exact OwnL.nil _ _, Below.refl _ _⟩
  case round =>
    obtain ⟨k, hk, hg, rfl, hown, hb⟩ := hrel
    rename World => wr
    obtain ⟨pre, hpre⟩ : ∃ pre, pre = (l.map (·.1)).take k := ⟨_, rfl⟩
    rw [← hpre] at hown
    obtain ⟨A5, c5, rfl⟩ := hown.form
    have hkl : pre.length = k := by rw [hpre]; simp; omega
    have HPRE := Lib.hid hpre
    have HO := Lib.hid hown
    have HKL := Lib.hid hkl
    have HB := Lib.hid hb
    clear hpre hown hkl hb
    by_cases hlt : k < l.length
    · obtain ⟨b1, o1, rfl, hb1, hc⟩ := (HR.out.below HB.out).at_ hlt
      have HTK := Lib.hid (show (l.map (·.1)).take (k + 1) = pre ++ [l[k].1] by rw [List.take_succ_eq_append_getElem (by simpa using hlt), HPRE.out]; simp)
      have z1 : (0 : Int) ≤ (k : Int) := by omega
      have z2 : (k : Int) < (l.length : Int) := by omega
      generalize l[k] = x at hc HTK
      have d0 := hc 0 _ rfl
      have d1 := hc 1 _ rfl
      have d2 := hc 2 _ rfl
      rw [Nat.add_zero] at d0
      clear hc
      go_wp2_with (first
        | (at_builtin
           refine wpList_appendL eKyC (by rfl) (by rfl) w.heap.size pre [x.1] (.slice A5 pre.length c5) _ (by rfl) (by rfl) (HO.out.below (balloc (balloc (Below.refl _ _) _) _)) (RowIn.lit _ x.1 _ _ (wr.heap.size + 1) (by simp) rfl) (by rw [HKL.out]; simp; omega) (by have := HB.out.size; simp; omega) ?_
           intro out2 A2 c2 w2 hout2 hown2 hg2 _
           have HO2 := Lib.hid hout2
           have HW2 := Lib.hid hown2
           have HB2 := Lib.hid (show Below w.heap.size w w2 from (balloc (balloc HB.out _) _).trans (grown_own hg2 HO.out (by have := HB.out.size; simp; omega)))
           clear hout2 hown2 hg2))
      go_roundg (l.length - (k + 1))
      case measure => omega
      case rel => exact ⟨k + 1, hlt, Nat.le_refl _, by go_num, by rw [HTK.out, ← HO2.out]; exact HW2.out, HB2.out⟩
    · obtain rfl : k = l.length := by omega
      have hp := HPRE.out
      rw [List.take_of_length_le (by simp)] at hp
      have HRI := Lib.hid (rising_own _ pre wr (keysIn_row (HO.out.row eKyC)) (by rw [HKL.out]; omega))
      have HP := Lib.hid hp
      clear hp
      go_wp2_with (first
        | (go_at_call 77
           refine HRI.out.mono ?_
           rintro e w3 ⟨v3, rfl, h1, h2, h3⟩
           have HK3 := Lib.hid (And.intro h1 (And.intro h2 h3))
           clear h1 h2 h3))
      go_ret
      rw [HP.out] at HK3
      refine ⟨v3, rfl, HK3.out.1, bthen HB.out HK3.out.2.1, ?_⟩
      exact own_lower HK3.out.2.2 HB.out.size

/-- The nodes of a cut's entries. -/
def NodesOf (w : World) (l : List En) (nd : En → Nd) (rs rh : Nat) : Prop := ∀ x ∈ l, ∃ fp, NodeIn w x.2 (nd x) rs rh fp
theorem NodesOf.below {w w' : World} {l : List En} {nd : En → Nd} {rs rh : Nat} (h : NodesOf w l nd rs rh) (hb : Below w.heap.size w w') : NodesOf w' l nd rs rh := fun x hx => by
  obtain ⟨fp, h⟩ := h x hx
  exact ⟨fp, h.below hb⟩
theorem findE_mem {l : List En} {k : Ky} {n : Nat} (h : findE l k = some n) : (k, n) ∈ l := by
  unfold findE at h
  obtain ⟨x, hx, rfl⟩ := Option.map_eq_some_iff.1 h
  have h1 := List.mem_of_find?_eq_some hx
  have h2 := List.find?_some hx
  simp at h2
  obtain ⟨a, b⟩ := x
  obtain rfl : a = k := h2
  exact h1
end

section
set_option linter.unusedSimpArgs false
set_option linter.unusedVariables false
open Go.RowKit Go.Lib Go.Sort

/-- A world of which only the old blocks are left. -/
def cutW (w : World) (n : Nat) : World := { w with heap := w.heap.extract 0 n }
theorem cutW_below {w : World} {n : Nat} (hn : n ≤ w.heap.size) : (cutW w n).heap.size = n ∧ Below (cutW w n).heap.size (cutW w n) w := by
  have e : (cutW w n).heap.size = n := by simp [cutW]; omega
  refine ⟨e, ⟨rfl, rfl, rfl, by rw [e]; exact hn, fun k hk => ?_⟩⟩
  rw [e] at hk
  simp only [cutW]
  rw [Array.getElem?_extract]
  simp
  omega
/-- What lies above a bound is left by a turn of what lies below it. -/
theorem Play.turn {w0 W w1 : World} {T M : Nat} {c : Cfg} {rs rh n ver : Nat} {es : List (KO × NE)} {v : Value} {l : List It} (h : Play w0 W T M c rs rh n ver es v l) {fp fp' : List Nat} (hu : Upd W w1 fp fp') (hfp : ∀ r ∈ fp, r < w0.heap.size) :
    ∃ w2, w2.heap.size = w0.heap.size ∧ Play w2 w1 T M c rs rh n ver es v l := by
  have hk : ∀ r, w0.heap.size ≤ r → r < W.heap.size → w1.heap[r]? = W.heap[r]? := fun r h1 h2 => hu.block r h2 (fun hm => by have := hfp r hm; omega)
  obtain ⟨e, hb⟩ := cutW_below (w := w1) (n := w0.heap.size) (Nat.le_trans h.base.size hu.size)
  have hT : w0.heap.size ≤ T := h.above T (by simp [sfp])
  have hM : w0.heap.size ≤ M := h.above M (by simp [sfp])
  refine ⟨cutW w1 w0.heap.size, e, ⟨⟨(hk T hT h.at_.ltT).trans h.at_.cell, h.at_.map.block (hk M hM h.at_.map.lt), fun p hp => (h.at_.node p hp).kept (fun r hr => hk r (h.fresh p hp r hr) ((h.at_.node p hp).lt r hr)), h.at_.pair, h.at_.off, h.at_.ne⟩, ?_, h.tells, hb, ?_, ?_, h.grown, h.vers, h.ver_, h.room⟩⟩
  · rw [e]
    exact ⟨h.items.1.keepP hu.size (fun b hb hlt => hk b hb.2 hlt), fun x hx => ⟨(h.items.2 x hx).1.keepP hu.size (fun b hb hlt => hk b hb.2 hlt), (h.items.2 x hx).2.keepP hu.size (fun b hb hlt => hk b hb.2 hlt)⟩⟩
  · rw [e]; exact h.above
  · rw [e]; exact h.fresh

/-- What Freeze gives: an entry for each key, the node frozen. -/
def frL (es : List (KO × NE)) (l : List It) : List En := (keysI l).map fun q => (q, blkOf es q)
def ndF (es : List (KO × NE)) (x : En) : Nd := ((es.find? (fun p => p.1.1 = x.1)).map (fun p => frz p.2.2.1)).getD nd0
theorem frL_len (es : List (KO × NE)) (l : List It) : (frL es l).length = l.length := by simp [frL, keysI]
theorem frL_keys (es : List (KO × NE)) (l : List It) : (frL es l).map (·.1) = keysI l := by
  simp [frL, Function.comp_def]
theorem blk_at {es : List (KO × NE)} {q : Ky} (h : q ∈ kyN es) : ∃ p ∈ es, p.1.1 = q ∧ es.find? (fun p => p.1.1 = q) = some p := by
  obtain ⟨p, hp, rfl⟩ := List.mem_map.1 h
  cases hf : es.find? (fun x => x.1.1 = p.1.1) with
  | none => exact absurd (List.find?_eq_none.1 hf p hp) (by simp)
  | some r => exact ⟨r, List.mem_of_find?_eq_some hf, by simpa using List.find?_some hf, rfl⟩
theorem frL_find {es : List (KO × NE)} {l : List It} (ht : Tells18 (ab es) (l.map absI)) (k : Ky) : findE (frL es l) k = if hasI l k = true then some (blkOf es k) else none := by
  have hs := ht.sortedI
  unfold findE frL
  by_cases h : hasI l k = true
  · rw [if_pos h]
    have hm := (hasI_iff hs k).1 h
    cases hf : ((keysI l).map fun q => (q, blkOf es q)).find? (fun x => decide (x.1 = k)) with
    | none =>
      have := List.find?_eq_none.1 hf (k, blkOf es k) (List.mem_map.2 ⟨k, hm, rfl⟩)
      simp at this
    | some r =>
      have h1 := List.mem_of_find?_eq_some hf
      have h2 := List.find?_some hf
      obtain ⟨q, _, rfl⟩ := List.mem_map.1 h1
      simp at h2
      subst h2
      rfl
  · rw [if_neg h]
    have hm : k ∉ keysI l := fun hm => h ((hasI_iff hs k).2 hm)
    rw [List.find?_eq_none.2]
    · rfl
    · intro x hx
      obtain ⟨q, hq, rfl⟩ := List.mem_map.1 hx
      simp
      rintro rfl
      exact hm hq
end

end Go.Proofs.YtfegielnmdppgaaGreat
