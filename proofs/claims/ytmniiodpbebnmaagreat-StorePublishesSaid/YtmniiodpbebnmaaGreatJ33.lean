/- ident.Rising, walked over the contracts of Clone, SortFunc, Compact; Equal lists, or not: slices.Equal, flywheelref08.Same, flywheelref14.Same. -/
import Derived.Test.YtmniiodpbebnmaaGreatJ32
import Derived.Test.YtmniiodpbebnmaaGreatJ08
import Derived.Test.YtmniiodpbebnmaaGreatJ03
import Derived.Lib.SmallJoins
import Derived.Test.YtmniiodpbebnmaaGreatJ06
import Derived.Test.YtmniiodpbebnmaaGreatJ07
namespace Go.Proofs.YtmniiodpbebnmaaGreat

section
set_option linter.unusedSimpArgs false
set_option linter.unusedVariables false
open Go.RowKit Go.Lib Go.Sort

def CloneSays (w : World) (l : List Ky) (e : Ending) (w' : World) : Prop :=
  ∃ v', e = .returned v' ∧ w'.ownsRow w.heap.size 74 2 v' l.length (cellsK l) ∧ Below w.heap.size w w'

set_option maxRecDepth 100000 in
set_option maxHeartbeats 2000000 in
theorem clone_any (v : Value) (l : List Ky) (w : World) (hv : KeysIn w v l) (hl : l.length ≤ 1000000) :
    Calls Tryz.prog 166 #[v] w (CloneSays w l) := by
  obtain ⟨A, c, rfl, h⟩ := hv
  obtain ⟨i0, hi0, hz0, hz1, hz2⟩ := info_parts key_info
  cases A with
  | none =>
    have h0 : l.length = 0 := by
      rcases Nat.eq_zero_or_pos l.length with h0 | h0
      · exact h0
      · obtain ⟨_, _, h1, _⟩ := h h0
        cases h1
    obtain rfl : l = [] := List.eq_nil_of_length_eq_zero h0
    clear h h0
    have q22 : ∀ (w : World) (a : Option Addr) (n c n' c' : Nat), (binOp .eql 92 (.slice a n c) (.slice none n' c')).run Tryz.prog w = .ok (.bool a.isNone) w := fun w a n c n' c' => Lib.run_eql_slice_nil w _ _ a n c n' c' Tryz.underlying92
    go_enter Tryz.func166, Tryz.ntmps166
    go_wp2
    go_ret
    exact ⟨_, rfl, ⟨rfl, .inl ⟨rfl, rfl⟩⟩, Below.refl _ _⟩
  | some a =>
    have hc : ∀ o : Obj, ∀ j u, (cellsK l)[j]? = some u → (w.alloc o).cell? (a.add j) = some u := by
      intro o j u hu
      have hj := (List.getElem?_eq_some_iff.1 hu).1
      rw [cellsK_len] at hj
      obtain ⟨b, o', e, hb, h1⟩ := h (by omega)
      injection e with e
      subst e
      rw [show (Addr.mk b o' none).add j = ⟨b, o' + j, none⟩ from by unfold Addr.add; split <;> simp_all]
      exact (World.cell?_alloc_lt w o ⟨b, o' + j, none⟩ hb).trans (h1 j u hu)
    have HC := Lib.hid hc
    clear h hc
    have q22 : ∀ (w : World) (a : Option Addr) (n c n' c' : Nat), (binOp .eql 92 (.slice a n c) (.slice none n' c')).run Tryz.prog w = .ok (.bool a.isNone) w := fun w a n c n' c' => Lib.run_eql_slice_nil w _ _ a n c n' c' Tryz.underlying92
    go_enter Tryz.func166, Tryz.ntmps166
    go_wp2_with (at_builtin; refine wpList_append_own _ rfl _ _ 92 rfl w.heap.size 74 i0 _ 2 16 Tryz.underlying92 hi0 hz0 hz1 hz2 rfl (by decide) _ _ _ rfl (World.ownsRow_made w #[] 0 (Nat.le_refl _) (Nat.zero_le _) (by simp)) a l.length c (cellsK l) rfl (cellsK_len l) (HC.out _) (cellsK_one l) (by simp only [maxLen]; omega) (by omega) (by simp) ?_; intro v' w1 hown hgrow _)
    go_ret
    refine ⟨v', rfl, ?_, (balloc (Below.refl _ w) _).grown hgrow (by simp) (fun k hk => by have hk' : some w.heap.size = some k := hk; injection hk'; omega)⟩
    rw [Nat.zero_add, List.nil_append] at hown
    exact hown

theorem holds_own {w : World} {base g cap : Nat} {l : List Ky} {T : TypeId} (h : w.ownsRow base T 2 (.slice (some ⟨g, 0, none⟩) l.length cap) l.length (cellsK l)) :
    HoldsK encK 2 w g 0 l.toArray ∧ g < w.heap.size ∧ base ≤ g ∧ l.length ≤ cap := by
  have hlt := h.lt g rfl
  have hc := h.cellAt
  rcases h.2 with ⟨hv, _⟩ | ⟨g', cap', cur, hv, hb, hg, hcap, _⟩
  · cases hv
  · injection hv with e1 e2 e3
    injection e1 with e1
    injection e1 with e1
    subst e1 e3
    refine ⟨fun j hj => ?_, hlt.2, hb, hcap⟩
    have hj' : j < l.length * 2 := by simpa using hj
    refine ⟨?_, Go.Joins.unfrozen_of_block hg (0 + j)⟩
    rw [Nat.zero_add, hc j hj', flat_cells, List.getElem?_eq_getElem (by rw [cellsK_len]; exact hj')]
    simp [cellsK_len, hj']

/-! ### Cmp as the sort asks for it -/
theorem ltOf_keyR : (ltOf fun x y : Ky => cmpI x.1 x.2 y.1 y.2) = ltK := by
  funext x y
  show decide (cmpI x.1 x.2 y.1 y.2 < 0) = ltK x y
  unfold ltK
  by_cases h1 : x.1 = y.1
  · by_cases h2 : x.2 = y.2
    · have : cmpI x.1 x.2 y.1 y.2 = 0 := by simp [cmpI, h1, h2]
      rw [this]
      simp [h1, h2]
    · by_cases h3 : x.2 < y.2
      · have : cmpI x.1 x.2 y.1 y.2 = -1 := by simp [cmpI, h1, h2, h3]
        rw [this]
        simp [h1, h3]
      · have : cmpI x.1 x.2 y.1 y.2 = 1 := by simp [cmpI, h1, h2, h3]
        rw [this]
        simp [h1, h3]
  · by_cases h3 : x.1 < y.1
    · have : cmpI x.1 x.2 y.1 y.2 = -1 := by simp [cmpI, h1, h3]
      rw [this]
      simp [h1, h3]
    · have : cmpI x.1 x.2 y.1 y.2 = 1 := by simp [cmpI, h1, h3]
      rw [this]
      simp [h1, h3]

theorem swoKR : SWO (ltOf fun x y : Ky => cmpI x.1 x.2 y.1 y.2) := by
  rw [ltOf_keyR]
  refine ⟨ltK_irrefl, fun x y z h1 h2 => ltK_trans h1 h2, fun x y z h1 h2 => ?_⟩
  cases h : ltK x z with
  | false => rfl
  | true =>
    cases h3 : ltK y x with
    | true => rw [ltK_trans h3 h] at h2; exact h2
    | false =>
      have := ltK_total h1 h3
      subst this
      rw [h] at h2
      exact h2

set_option maxRecDepth 100000 in
set_option maxHeartbeats 1000000 in
theorem cmp_laysR (x y : Ky) (W : World) : Calls Tryz.prog 168 #[.agg #[.int .u64 x.1, .int .u64 x.2], .agg #[.int .u64 y.1, .int .u64 y.2]] W fun e w' => e = .returned (.int .i64 (cmpI x.1 x.2 y.1 y.2)) ∧ ∃ q os', w' = grow (W.drewN q) os' := by
  obtain ⟨a, b⟩ := x
  obtain ⟨c, d⟩ := y
  simp only
  by_cases e1 : a = c
  · subst e1
    by_cases e2 : b = d
    · subst e2
      have hv : cmpI a b a b = 0 := by simp [cmpI]
      rw [hv]
      clear hv
      go_enter Tryz.func168, Tryz.ntmps168
      go_wp2
      go_ret
      exact ⟨rfl, 0, _, by rw [alloc_eq_grow, alloc_eq_grow, grow_grow]; rfl⟩
    · have q : ((b : Int) == (d : Int)) = false := by simp; omega
      by_cases e3 : b < d
      · have hv : cmpI a b a d = -1 := by simp [cmpI, e2, e3]
        rw [hv]
        clear hv
        go_enter Tryz.func168, Tryz.ntmps168
        go_wp2
        go_ret
        exact ⟨rfl, 0, _, by rw [alloc_eq_grow, alloc_eq_grow, grow_grow]; rfl⟩
      · have hv : cmpI a b a d = 1 := by simp [cmpI, e2, e3]
        rw [hv]
        clear hv
        go_enter Tryz.func168, Tryz.ntmps168
        go_wp2
        go_ret
        exact ⟨rfl, 0, _, by rw [alloc_eq_grow, alloc_eq_grow, grow_grow]; rfl⟩
  · have q : ((a : Int) == (c : Int)) = false := by simp; omega
    by_cases e3 : a < c
    · have hv : cmpI a b c d = -1 := by simp [cmpI, e1, e3]
      rw [hv]
      clear hv
      go_enter Tryz.func168, Tryz.ntmps168
      go_wp2
      go_ret
      exact ⟨rfl, 0, _, by rw [alloc_eq_grow, alloc_eq_grow, grow_grow]; rfl⟩
    · have hv : cmpI a b c d = 1 := by simp [cmpI, e1, e3]
      rw [hv]
      clear hv
      go_enter Tryz.func168, Tryz.ntmps168
      go_wp2
      go_ret
      exact ⟨rfl, 0, _, by rw [alloc_eq_grow, alloc_eq_grow, grow_grow]; rfl⟩

theorem cmpLays_keyR (blk off size : Nat) (w : World) : CmpLays Tryz.prog 168 #[] encK 2 (fun x y : Ky => cmpI x.1 x.2 y.1 y.2) blk off size w :=
  fun _ _ _ _ x y => cmp_laysR x y _

/-- The sort at keys, from a row of the call's own. -/
theorem sort_key (g cap : Nat) (l : List Ky) (w : World) (hH : HoldsK encK 2 w g 0 l.toArray) (hg : g < w.heap.size) (hl : l.length ≤ 1000000) :
    Calls Tryz.prog 167 #[.slice (some ⟨g, 0, none⟩) l.length cap, .func (.func 168) #[] #[]] w fun e w' =>
      e = .returned (.tuple #[]) ∧ ∃ n os, w' = sortWorldK encK 2 w g 0 n (l.mergeSort fun x y => !ltK y x).toArray os := by
  have eg : ∀ args w, (callFunc 168 args).run Tryz.prog w = .ok (.enter 168 args) w := enters_of Tryz.func168 (by kernel_rfl) rfl
  have h := AnyQ.slices_SortFunc_total sortK 2 Tryz.isAgg74 Tryz.sizeOf74 encK (fun _ => rfl) encK_one (fun x y : Ky => cmpI x.1 x.2 y.1 y.2) swoKR 168 #[] g 0 cap l.toArray w eg (cmpLays_keyR g 0 l.toArray.size w) hH hg (by simp; omega)
    (fun x y h1 h2 => by rw [ltOf_keyR] at h1 h2; exact ltK_total h1 h2)
  rw [ltOf_keyR] at h
  exact h

theorem below_grow {B : Nat} {w0 w : World} (h : Below B w0 w) (hB : B ≤ w.heap.size) (os : Array Obj) : Below B w0 (grow w os) :=
  ⟨h.os, h.tape, h.output, by have := h.size; simp [grow]; omega, fun k hk => by
    rw [← h.block k hk]
    simp [grow, Array.getElem?_append, show k < w.heap.size by omega]⟩

theorem putRowK_size (w : World) (blk off : Nat) (d : Array Ky) : (putRowK encK 2 w blk off d).heap.size = w.heap.size := by simp [putRowK, putRow, mapBlock]

set_option maxRecDepth 100000 in
set_option maxHeartbeats 1000000 in
theorem compact_nil (w : World) : Calls Tryz.prog 169 #[.slice none 0 0] w fun e w' => e = .returned (.slice none 0 0) ∧ w' = w := by
  go_enter Tryz.func169, Tryz.ntmps169
  go_wp2
  go_ret
  exact ⟨rfl, rfl⟩

/-- The same, and the row is the caller's own. -/
def RisW (w : World) (l : List Ky) (e : Ending) (w' : World) : Prop := ∃ v', e = .returned v' ∧ KeysIn w' v' l ∧ Below w.heap.size w w' ∧ w'.ownsRow w.heap.size 74 2 v' l.length (cellsK l)
/-- What stands behind the three. -/
theorem rising_end {w w1 w2 w3 : World} {g n cap : Nat} {os : Array Obj} {l : List Ky} {e : Ending} (hb : Below w.heap.size w w1) (hown : w1.ownsRow w.heap.size 74 2 (.slice (some ⟨g, 0, none⟩) l.length cap) l.length (cellsK l)) (hH : HoldsK encK 2 w1 g 0 l.toArray) (hg : g < w1.heap.size) (hgb : w.heap.size ≤ g)
    (hw2 : w2 = sortWorldK encK 2 w1 g 0 n (l.mergeSort fun x y => !ltK y x).toArray os) (h : CompactSays w2 g 0 (l.mergeSort fun x y => !ltK y x).toArray cap e w3) : RisW w (risL l) e w3 := by
  obtain ⟨q, F, rfl, rfl, hF, hc⟩ := h
  rw [compact_sort] at hc ⊢
  have hs : (l.mergeSort fun x y => !ltK y x).toArray.size = l.toArray.size := by simp
  have hH2 : HoldsK encK 2 w2 g 0 (l.mergeSort fun x y => !ltK y x).toArray := by
    rw [hw2]
    exact holdsK_grow encK 2 _ os g 0 _ (by rw [putRowK_size]; exact hg) (holdsK_putRowK encK 2 _ g 0 l.toArray _ (holdsK_ahead encK 2 w1 n g 0 _ hH) hs)
  have hb1 : Below w.heap.size w (putRowK encK 2 (Sort.ahead w1 n) g 0 (l.mergeSort fun x y => !ltK y x).toArray) := below_putRow hb hgb
  have hb2 : Below w.heap.size w w2 := by
    rw [hw2]
    exact below_grow hb1 hb1.size os
  have hg2 : g < w2.heap.size := by
    rw [hw2]
    show g < (grow _ os).heap.size
    simp only [grow, Array.size_append, putRowK_size]
    show g < w1.heap.size + os.size
    omega
  refine ⟨_, rfl, ⟨_, _, rfl, fun hn => ⟨g, 0, rfl, ?_, fun j u hu => ?_⟩⟩, below_putRow hb2 hgb, ?_⟩
  · have := (below_putRow (enc := id) (q := q) (d := F) (Below.refl g w2) (Nat.le_refl g)).size
    omega
  · have hj := hc j u hu
    have hjs := (Array.getElem?_eq_some_iff.1 hj).1
    have hcell := cell?_putRow id (Sort.ahead w2 q) g 0 (flatK encK 2 (l.mergeSort fun x y => !ltK y x).toArray) F (holdsK_ahead encK 2 w2 q g 0 _ hH2) (by rw [hF]; simp) j hjs
    rw [hcell, getElem!_pos F j hjs]
    have := (Array.getElem?_eq_some_iff.1 hj).2
    simp [this]
  · rcases hown.2 with ⟨hv, _⟩ | ⟨g', cap', cur, hv, hbase, hg1, h1, h2, h3, h4⟩
    · cases hv
    · injection hv with e1 e2 e3
      injection e1 with e1
      injection e1 with e1
      subst e1 e3
      obtain ⟨c2, hc2, hs2⟩ : ∃ c2 : Array Value, w2.heap[g]? = some (.cells c2 74 (0, 0)) ∧ c2.size = cap * 2 := by
        refine ⟨putCells id 0 (flatK encK 2 (l.mergeSort fun x y => !ltK y x).toArray) cur, ?_, by simp [putCells, h3]⟩
        rw [hw2]
        exact (heap_grow_old (putRowK encK 2 (Sort.ahead w1 n) g 0 (l.mergeSort fun x y => !ltK y x).toArray) os (by rw [putRowK_size]; exact hg)).trans (putRow_heap (w := Sort.ahead w1 n) _ hg1)
      have hlr : (risL l).length ≤ l.length := len_risL l
      have hFs : F.size = l.length * 2 := by rw [hF]; simp
      have htk := take_put F.toList c2 (by rw [Array.length_toList, hFs, hs2]; omega)
      rw [Array.toArray_toList] at htk
      refine ⟨by rw [cellsK_len], .inr ⟨g, cap, _, rfl, hgb, putRow_heap (w := Sort.ahead w2 q) F hc2, by omega, h2, by simp [putCells, hs2], ?_⟩⟩
      have e1 : (putCells id 0 F c2).toList.take ((risL l).length * 2) = F.toList.take ((risL l).length * 2) := by
        have hFl : F.toList.length = l.length * 2 := by rw [Array.length_toList]; exact hFs
        rw [← htk, List.take_take, hFl]
        congr 1
        omega
      rw [e1]
      apply List.ext_getElem?
      intro i
      rw [List.getElem?_take]
      by_cases hi : i < (risL l).length * 2
      · rw [if_pos hi]
        have hil : i < (cellsK (risL l)).length := by rw [cellsK_len]; exact hi
        have := hc i _ (List.getElem?_eq_getElem hil)
        rw [Array.getElem?_toList, this, List.getElem?_eq_getElem hil]
      · rw [if_neg hi, List.getElem?_eq_none (by rw [cellsK_len]; omega)]

set_option maxRecDepth 100000 in
set_option maxHeartbeats 2000000 in
theorem rising_own (v : Value) (l : List Ky) (w : World) (hv : KeysIn w v l) (hl : l.length ≤ 1000000) :
    Calls Tryz.prog 98 #[v] w (RisW w (risL l)) := by
  have HC := Lib.hid (clone_any v l w hv hl)
  have hcl := len_risL l
  obtain ⟨A, c, rfl, _⟩ := id hv
  clear hv
  go_enter Tryz.func98, Tryz.ntmps98
  go_wp2_with (go_at_call 166; refine HC.out.mono ?_; rintro e w1 ⟨v1, rfl, hown, hb1⟩)
  rcases Go.Joins.ownsRow_forms hown with ⟨rfl, h0⟩ | ⟨g, cap, rfl⟩
  · obtain rfl : l = [] := List.eq_nil_of_length_eq_zero h0
    have hs := Lib.hid (AnyF.slices_SortFunc_none sortK none 0 (.func (.func 168) #[] #[]) w1)
    clear hown
    go_wp2_with (first
      | (go_at_call 167; refine hs.out.mono ?_; rintro e w2 ⟨rfl, rfl⟩)
      | (go_at_call 169; refine (compact_nil _).mono ?_; rintro e w3 ⟨rfl, rfl⟩))
    go_ret
    exact ⟨_, rfl, ⟨_, _, rfl, fun h => absurd h (by simp [risL])⟩, hb1, ⟨rfl, .inl ⟨rfl, rfl⟩⟩⟩
  · obtain ⟨hH, hg, hgb, hcap⟩ := holds_own hown
    have hs := Lib.hid (sort_key g cap l w1 hH hg hl)
    have HH := Lib.hid hH
    have HOW := Lib.hid hown
    have hsz : (l.mergeSort fun x y => !ltK y x).toArray.size = l.length := by simp
    clear hown hH
    go_wp2_with (first
      | (go_at_call 167; refine hs.out.mono ?_; rintro e w2 ⟨rfl, n, os, hw2⟩
         have hcc := Lib.hid (compact_any g 0 cap (l.mergeSort fun x y => !ltK y x).toArray w2 (by
           rw [hw2]
           exact holdsK_grow encK 2 _ os g 0 _ (by rw [putRowK_size]; exact hg) (holdsK_putRowK encK 2 _ g 0 l.toArray _ (holdsK_ahead encK 2 w1 n g 0 _ HH.out) (by simp))) (by simp; omega) (by simp; omega))
         rw [hsz] at hcc
         have HW := Lib.hid hw2
         clear hw2)
      | (go_at_call 169; refine hcc.out.mono ?_; intro e w3 hc3; obtain ⟨v3, rfl, hk3, hb3, ho3⟩ := rising_end hb1 HOW.out HH.out hg hgb HW.out hc3; clear hc3; obtain ⟨A3, c3, rfl, _⟩ := id hk3; have Hk3 := Lib.hid hk3; have Ho3 := Lib.hid ho3; clear hk3 ho3))
    go_ret
    exact ⟨_, rfl, Hk3.out, hb3, Ho3.out⟩
end

section
set_option linter.unusedSimpArgs false
set_option linter.unusedVariables false
open Go.RowKit Go.Lib Go.Sort

deriving instance DecidableEq for Adv
theorem smp_ne {x y : Smp} (h : x ≠ y) : x.1 ≠ y.1 ∨ x.2 ≠ y.2 := by
  by_cases h1 : x.1 = y.1
  · exact .inr (fun h2 => h (Prod.ext h1 h2))
  · exact .inl h1
theorem adv_ne {x y : Adv} (h : x ≠ y) : x.tick ≠ y.tick ∨ x.load ≠ y.load ∨ x.want ≠ y.want ∨ x.repl ≠ y.repl ∨ x.why ≠ y.why := by
  obtain ⟨a, b, c, d, e⟩ := x
  obtain ⟨a2, b2, c2, d2, e2⟩ := y
  by_cases h1 : a = a2 <;> by_cases h2 : b = b2 <;> by_cases h3 : c = c2 <;> by_cases h4 : d = d2 <;> by_cases h5 : e = e2 <;> simp_all

set_option maxRecDepth 100000 in
set_option maxHeartbeats 8000000 in
theorem sEqual_any (v u : Value) (l m : List Smp) (w : World) (hv : RowIn 2 smpC w v l) (hu : RowIn 2 smpC w u m) (hl : l.length ≤ 1000000) (hm : m.length ≤ 1000000) :
    Calls Tryz.prog 172 #[v, u] w fun e w' => e = .returned (.bool (decide (l = m))) ∧ Below w.heap.size w w' := by
  obtain ⟨A, c, rfl⟩ := hv.form
  obtain ⟨A', c', rfl⟩ := hu.form
  have HV := Lib.hid hv
  have HU := Lib.hid hu
  have hl9 : l.length ≤ 9223372036854775807 := by omega
  have hm9 : m.length ≤ 9223372036854775807 := by omega
  clear hv hu
  by_cases hlen : l.length = m.length
  · have HLE := Lib.hid hlen
    have hne : ((l.length : Int) != (m.length : Int)) = false := by rw [hlen]; simp
    clear hlen
    go_enter Tryz.func172, Tryz.ntmps172
    go_wp2_with fail
    clear hne
    go_loopg [13] l.length (fun g s13 wr => ∃ k : Nat, k ≤ l.length ∧ l.length - k ≤ g ∧ s13 = .int .i64 k ∧ Hid (l.take k = m.take k) ∧ Below w.heap.size w wr)
    case atStart => exact ⟨0, Nat.zero_le _, Nat.le_refl _, rfl, Lib.hid (by simp), Below.refl _ _⟩
    case round =>
      obtain ⟨k, hk, hg, rfl, HT, hb⟩ := hrel
      rename World => wr
      have HB := Lib.hid hb
      clear hb
      by_cases hlt : k < l.length
      · have hlt2 : k < m.length := by have := HLE.out; omega
        obtain ⟨b1, o1, rfl, hb1, hc1⟩ := (HV.out.below HB.out).at_ hlt
        obtain ⟨b2, o2, rfl, hb2, hc2⟩ := (HU.out.below HB.out).at_ hlt2
        have z1 : (0 : Int) ≤ (k : Int) := by omega
        have z2 : (k : Int) < (l.length : Int) := by omega
        have z3 : (k : Int) < (m.length : Int) := by omega
        by_cases hxy : l[k] = m[k]
        · have HT2 := Lib.hid (show l.take (k + 1) = m.take (k + 1) by rw [List.take_succ_eq_append_getElem hlt, List.take_succ_eq_append_getElem hlt2, HT.out, hxy])
          rw [← hxy] at hc2
          generalize l[k] = x at hc1 hc2
          have c0 := hc1 0 _ rfl
          have c1 := hc1 1 _ rfl
          rw [Nat.add_zero] at c0
          have d0 := hc2 0 _ rfl
          have d1 := hc2 1 _ rfl
          rw [Nat.add_zero] at d0
          clear hc1 hc2 hxy
          go_wp2_with fail
          go_quiet (fail)
          go_wp2_with fail
          go_roundg (l.length - (k + 1))
          case measure => omega
          case rel => exact ⟨k + 1, hlt, Nat.le_refl _, by go_num, HT2, below_drewN HB.out _⟩
        · have HNE := Lib.hid (show decide (l = m) = false from decide_eq_false (fun e => hxy (by subst e; rfl)))
          generalize l[k] = x at hc1 hxy
          generalize m[k] = y at hc2 hxy
          have c0 := hc1 0 _ rfl
          have c1 := hc1 1 _ rfl
          rw [Nat.add_zero] at c0
          have d0 := hc2 0 _ rfl
          have d1 := hc2 1 _ rfl
          rw [Nat.add_zero] at d0
          clear hc1 hc2
          rcases smp_ne hxy with hne | hne
          · have hq : (x.1 == y.1) = false := by simpa using hne
            clear hne
            go_wp2_with fail
            go_quiet (fail)
            go_wp2_with fail
            go_ret
            exact ⟨by rw [HNE.out]; rfl, below_drewN HB.out _⟩
          · have hq : (x.2 == y.2) = false := by simpa using hne
            clear hne
            go_wp2_with fail
            go_quiet (fail)
            go_wp2_with fail
            go_ret
            exact ⟨by rw [HNE.out]; rfl, below_drewN HB.out _⟩
      · obtain rfl : k = l.length := by omega
        have e : l = m := by have := HT.out; rw [List.take_length, HLE.out, List.take_length] at this; exact this
        have HE := Lib.hid (show decide (l = m) = true from decide_eq_true e)
        clear e
        go_wp2_with fail
        go_ret
        exact ⟨by rw [HE.out]; rfl, HB.out⟩
  · have hne : ((l.length : Int) != (m.length : Int)) = true := by simp; omega
    have HNE := Lib.hid (show decide (l = m) = false from decide_eq_false (fun e => hlen (by rw [e])))
    clear hlen
    go_enter Tryz.func172, Tryz.ntmps172
    go_wp2_with fail
    go_ret
    exact ⟨by rw [HNE.out]; rfl, Below.refl _ _⟩

set_option maxRecDepth 100000 in
set_option maxHeartbeats 8000000 in
theorem aEqual_any (v u : Value) (l m : List Adv) (w : World) (hv : RowIn 5 advC w v l) (hu : RowIn 5 advC w u m) (hl : l.length ≤ 1000000) (hm : m.length ≤ 1000000) :
    Calls Tryz.prog 173 #[v, u] w fun e w' => e = .returned (.bool (decide (l = m))) ∧ Below w.heap.size w w' := by
  obtain ⟨A, c, rfl⟩ := hv.form
  obtain ⟨A', c', rfl⟩ := hu.form
  have HV := Lib.hid hv
  have HU := Lib.hid hu
  have hl9 : l.length ≤ 9223372036854775807 := by omega
  have hm9 : m.length ≤ 9223372036854775807 := by omega
  clear hv hu
  by_cases hlen : l.length = m.length
  · have HLE := Lib.hid hlen
    have hne : ((l.length : Int) != (m.length : Int)) = false := by rw [hlen]; simp
    clear hlen
    go_enter Tryz.func173, Tryz.ntmps173
    go_wp2_with fail
    clear hne
    go_loopg [13] l.length (fun g s13 wr => ∃ k : Nat, k ≤ l.length ∧ l.length - k ≤ g ∧ s13 = .int .i64 k ∧ Hid (l.take k = m.take k) ∧ Below w.heap.size w wr)
    case atStart => exact ⟨0, Nat.zero_le _, Nat.le_refl _, rfl, Lib.hid (by simp), Below.refl _ _⟩
    case round =>
      obtain ⟨k, hk, hg, rfl, HT, hb⟩ := hrel
      rename World => wr
      have HB := Lib.hid hb
      clear hb
      by_cases hlt : k < l.length
      · have hlt2 : k < m.length := by have := HLE.out; omega
        obtain ⟨b1, o1, rfl, hb1, hc1⟩ := (HV.out.below HB.out).at_ hlt
        obtain ⟨b2, o2, rfl, hb2, hc2⟩ := (HU.out.below HB.out).at_ hlt2
        have z1 : (0 : Int) ≤ (k : Int) := by omega
        have z2 : (k : Int) < (l.length : Int) := by omega
        have z3 : (k : Int) < (m.length : Int) := by omega
        by_cases hxy : l[k] = m[k]
        · have HT2 := Lib.hid (show l.take (k + 1) = m.take (k + 1) by rw [List.take_succ_eq_append_getElem hlt, List.take_succ_eq_append_getElem hlt2, HT.out, hxy])
          rw [← hxy] at hc2
          generalize l[k] = x at hc1 hc2
          have c0 := hc1 0 _ rfl
          have c1 := hc1 1 _ rfl
          have c2 := hc1 2 _ rfl
          have c3 := hc1 3 _ rfl
          have c4 := hc1 4 _ rfl
          rw [Nat.add_zero] at c0
          have d0 := hc2 0 _ rfl
          have d1 := hc2 1 _ rfl
          have d2 := hc2 2 _ rfl
          have d3 := hc2 3 _ rfl
          have d4 := hc2 4 _ rfl
          rw [Nat.add_zero] at d0
          clear hc1 hc2 hxy
          go_wp2_with fail
          go_quiet (fail)
          go_wp2_with fail
          go_roundg (l.length - (k + 1))
          case measure => omega
          case rel => exact ⟨k + 1, hlt, Nat.le_refl _, by go_num, HT2, below_drewN HB.out _⟩
        · have HNE := Lib.hid (show decide (l = m) = false from decide_eq_false (fun e => hxy (by subst e; rfl)))
          generalize l[k] = x at hc1 hxy
          generalize m[k] = y at hc2 hxy
          have c0 := hc1 0 _ rfl
          have c1 := hc1 1 _ rfl
          have c2 := hc1 2 _ rfl
          have c3 := hc1 3 _ rfl
          have c4 := hc1 4 _ rfl
          rw [Nat.add_zero] at c0
          have d0 := hc2 0 _ rfl
          have d1 := hc2 1 _ rfl
          have d2 := hc2 2 _ rfl
          have d3 := hc2 3 _ rfl
          have d4 := hc2 4 _ rfl
          rw [Nat.add_zero] at d0
          clear hc1 hc2
          rcases adv_ne hxy with hne | hne | hne | hne | hne
          · have hq : (x.tick == y.tick) = false := by simpa using hne
            clear hne
            go_wp2_with fail
            go_quiet (fail)
            go_wp2_with fail
            go_ret
            exact ⟨by rw [HNE.out]; rfl, below_drewN HB.out _⟩
          · have hq : (x.load == y.load) = false := by simpa using hne
            clear hne
            go_wp2_with fail
            go_quiet (fail)
            go_wp2_with fail
            go_ret
            exact ⟨by rw [HNE.out]; rfl, below_drewN HB.out _⟩
          · have hq : (x.want == y.want) = false := by simpa using hne
            clear hne
            go_wp2_with fail
            go_quiet (fail)
            go_wp2_with fail
            go_ret
            exact ⟨by rw [HNE.out]; rfl, below_drewN HB.out _⟩
          · have hq : (x.repl == y.repl) = false := by simpa using hne
            clear hne
            go_wp2_with fail
            go_quiet (fail)
            go_wp2_with fail
            go_ret
            exact ⟨by rw [HNE.out]; rfl, below_drewN HB.out _⟩
          · have hq : (x.why == y.why) = false := by simpa using hne
            clear hne
            go_wp2_with fail
            go_quiet (fail)
            go_wp2_with fail
            go_ret
            exact ⟨by rw [HNE.out]; rfl, below_drewN HB.out _⟩
      · obtain rfl : k = l.length := by omega
        have e : l = m := by have := HT.out; rw [List.take_length, HLE.out, List.take_length] at this; exact this
        have HE := Lib.hid (show decide (l = m) = true from decide_eq_true e)
        clear e
        go_wp2_with fail
        go_ret
        exact ⟨by rw [HE.out]; rfl, HB.out⟩
  · have hne : ((l.length : Int) != (m.length : Int)) = true := by simp; omega
    have HNE := Lib.hid (show decide (l = m) = false from decide_eq_false (fun e => hlen (by rw [e])))
    clear hlen
    go_enter Tryz.func173, Tryz.ntmps173
    go_wp2_with fail
    go_ret
    exact ⟨by rw [HNE.out]; rfl, Below.refl _ _⟩
end

end Go.Proofs.YtmniiodpbebnmaaGreat
