/- Contracts of the shelf, laid at this program (by lay-plain.mjs; numbers by name); ident.Rising, walked over the contracts of Clone, SortFunc, Compact. -/
import Derived.Test.YtmndhffimlkjgaaDoorJ33
import Derived.Shelf.SlicesE.Clone
import Derived.Test.YtmndhffimlkjgaaDoorJ02
import Derived.Test.YtmndhffimlkjgaaDoorJ08
import Derived.Lib.SmallJoins
namespace Go.Proofs.YtmndhffimlkjgaaDoor

section
set_option linter.unusedSimpArgs false
set_option linter.unusedVariables false
open Go.Shelf
def cloneK_ren : Go.Shelf.Ren := ⟨fun | 41 => 38 | n => n, fun | 22 => 53 | 23 => 40 | 4 => 4 | n => n, fun | n => n⟩
theorem cloneK : Go.Proofs.SlLaysE0.n41 Tryd.prog cloneK_ren := {
  mixed := by kernel_rfl
  f41 := ⟨Tryd.f38.name, by decide, Tryd.func38.trans (congrArg some (by kernel_rfl))⟩
  t4 := Tryd.underlying4
  a4 := Tryd.isAgg4
  z4 := Tryd.sizeOf4
  v4 := Tryd.zeroValue4
  t22 := Tryd.underlying53
  a22 := Tryd.isAgg53
  z22 := Tryd.sizeOf53
  v22 := Tryd.zeroValue53 }
end

section
set_option linter.unusedSimpArgs false
set_option linter.unusedVariables false
open Go.RowKit Go.Lib Go.Sort

def CloneSays (w : World) (l : List Ky) (e : Ending) (w' : World) : Prop :=
  ∃ v', e = .returned v' ∧ w'.ownsRow w.heap.size 40 2 v' l.length (cellsK l) ∧ Below w.heap.size w w'

set_option maxRecDepth 100000 in
set_option maxHeartbeats 2000000 in
theorem clone_any (v : Value) (l : List Ky) (w : World) (hv : KeysIn w v l) (hl : l.length ≤ 1000000) :
    Calls Tryd.prog 38 #[v] w (CloneSays w l) := by
  obtain ⟨A, c, rfl, h⟩ := hv
  obtain ⟨i0, hi0, hz0, hz1, hz2⟩ := info_parts key_info
  cases A with
  | none =>
    have h0 : l.length = 0 := by
      rcases Nat.eq_zero_or_pos l.length with h0 | h0
      · exact h0
      · obtain ⟨_, _, h1, _⟩ := h h0
        cases h1
    obtain rfl : l = [] := List.eq_nil_of_length_eq_zero h0
    clear h h0
    have q22 : ∀ (w : World) (a : Option Addr) (n c n' c' : Nat), (binOp .eql 53 (.slice a n c) (.slice none n' c')).run Tryd.prog w = .ok (.bool a.isNone) w := fun w a n c n' c' => Lib.run_eql_slice_nil w _ _ a n c n' c' Tryd.underlying53
    go_enter Tryd.func38, Tryd.ntmps38
    go_wp2
    go_ret
    exact ⟨_, rfl, ⟨rfl, .inl ⟨rfl, rfl⟩⟩, Below.refl _ _⟩
  | some a =>
    have hc : ∀ o : Obj, ∀ j u, (cellsK l)[j]? = some u → (w.alloc o).cell? (a.add j) = some u := by
      intro o j u hu
      have hj := (List.getElem?_eq_some_iff.1 hu).1
      rw [cellsK_len] at hj
      obtain ⟨b, o', e, hb, h1⟩ := h (by omega)
      injection e with e
      subst e
      rw [show (Addr.mk b o' none).add j = ⟨b, o' + j, none⟩ from by unfold Addr.add; split <;> simp_all]
      exact (World.cell?_alloc_lt w o ⟨b, o' + j, none⟩ hb).trans (h1 j u hu)
    have HC := Lib.hid hc
    clear h hc
    have q22 : ∀ (w : World) (a : Option Addr) (n c n' c' : Nat), (binOp .eql 53 (.slice a n c) (.slice none n' c')).run Tryd.prog w = .ok (.bool a.isNone) w := fun w a n c n' c' => Lib.run_eql_slice_nil w _ _ a n c n' c' Tryd.underlying53
    go_enter Tryd.func38, Tryd.ntmps38
    go_wp2_with (at_builtin; refine wpList_append_own _ rfl _ _ 53 rfl w.heap.size 40 i0 _ 2 16 Tryd.underlying53 hi0 hz0 hz1 hz2 rfl (by decide) _ _ _ rfl (World.ownsRow_made w #[] 0 (Nat.le_refl _) (Nat.zero_le _) (by simp)) a l.length c (cellsK l) rfl (cellsK_len l) (HC.out _) (cellsK_one l) (by simp only [maxLen]; omega) (by omega) (by simp) ?_; intro v' w1 hown hgrow _)
    go_ret
    refine ⟨v', rfl, ?_, (balloc (Below.refl _ w) _).grown hgrow (by simp) (fun k hk => by have hk' : some w.heap.size = some k := hk; injection hk'; omega)⟩
    rw [Nat.zero_add, List.nil_append] at hown
    exact hown

theorem holds_own {w : World} {base g cap : Nat} {l : List Ky} {T : TypeId} (h : w.ownsRow base T 2 (.slice (some ⟨g, 0, none⟩) l.length cap) l.length (cellsK l)) :
    HoldsK encK 2 w g 0 l.toArray ∧ g < w.heap.size ∧ base ≤ g ∧ l.length ≤ cap := by
  have hlt := h.lt g rfl
  have hc := h.cellAt
  rcases h.2 with ⟨hv, _⟩ | ⟨g', cap', cur, hv, hb, hg, hcap, _⟩
  · cases hv
  · injection hv with e1 e2 e3
    injection e1 with e1
    injection e1 with e1
    subst e1 e3
    refine ⟨fun j hj => ?_, hlt.2, hb, hcap⟩
    have hj' : j < l.length * 2 := by simpa using hj
    refine ⟨?_, Go.Joins.unfrozen_of_block hg (0 + j)⟩
    rw [Nat.zero_add, hc j hj', flat_cells, List.getElem?_eq_getElem (by rw [cellsK_len]; exact hj')]
    simp [cellsK_len, hj']

/-! ### Cmp as the sort asks for it -/
theorem ltOf_keyR : (ltOf fun x y : Ky => cmpI x.1 x.2 y.1 y.2) = ltK := by
  funext x y
  show decide (cmpI x.1 x.2 y.1 y.2 < 0) = ltK x y
  unfold ltK
  by_cases h1 : x.1 = y.1
  · by_cases h2 : x.2 = y.2
    · have : cmpI x.1 x.2 y.1 y.2 = 0 := by simp [cmpI, h1, h2]
      rw [this]
      simp [h1, h2]
    · by_cases h3 : x.2 < y.2
      · have : cmpI x.1 x.2 y.1 y.2 = -1 := by simp [cmpI, h1, h2, h3]
        rw [this]
        simp [h1, h3]
      · have : cmpI x.1 x.2 y.1 y.2 = 1 := by simp [cmpI, h1, h2, h3]
        rw [this]
        simp [h1, h3]
  · by_cases h3 : x.1 < y.1
    · have : cmpI x.1 x.2 y.1 y.2 = -1 := by simp [cmpI, h1, h3]
      rw [this]
      simp [h1, h3]
    · have : cmpI x.1 x.2 y.1 y.2 = 1 := by simp [cmpI, h1, h3]
      rw [this]
      simp [h1, h3]

theorem swoKR : SWO (ltOf fun x y : Ky => cmpI x.1 x.2 y.1 y.2) := by
  rw [ltOf_keyR]
  refine ⟨ltK_irrefl, fun x y z h1 h2 => ltK_trans h1 h2, fun x y z h1 h2 => ?_⟩
  cases h : ltK x z with
  | false => rfl
  | true =>
    cases h3 : ltK y x with
    | true => rw [ltK_trans h3 h] at h2; exact h2
    | false =>
      have := ltK_total h1 h3
      subst this
      rw [h] at h2
      exact h2

set_option maxRecDepth 100000 in
set_option maxHeartbeats 1000000 in
theorem cmp_laysR (x y : Ky) (W : World) : Calls Tryd.prog 40 #[.agg #[.int .u64 x.1, .int .u64 x.2], .agg #[.int .u64 y.1, .int .u64 y.2]] W fun e w' => e = .returned (.int .i64 (cmpI x.1 x.2 y.1 y.2)) ∧ ∃ q os', w' = grow (W.drewN q) os' := by
  obtain ⟨a, b⟩ := x
  obtain ⟨c, d⟩ := y
  simp only
  by_cases e1 : a = c
  · subst e1
    by_cases e2 : b = d
    · subst e2
      have hv : cmpI a b a b = 0 := by simp [cmpI]
      rw [hv]
      clear hv
      go_enter Tryd.func40, Tryd.ntmps40
      go_wp2
      go_ret
      exact ⟨rfl, 0, _, by rw [alloc_eq_grow, alloc_eq_grow, grow_grow]; rfl⟩
    · have q : ((b : Int) == (d : Int)) = false := by simp; omega
      by_cases e3 : b < d
      · have hv : cmpI a b a d = -1 := by simp [cmpI, e2, e3]
        rw [hv]
        clear hv
        go_enter Tryd.func40, Tryd.ntmps40
        go_wp2
        go_ret
        exact ⟨rfl, 0, _, by rw [alloc_eq_grow, alloc_eq_grow, grow_grow]; rfl⟩
      · have hv : cmpI a b a d = 1 := by simp [cmpI, e2, e3]
        rw [hv]
        clear hv
        go_enter Tryd.func40, Tryd.ntmps40
        go_wp2
        go_ret
        exact ⟨rfl, 0, _, by rw [alloc_eq_grow, alloc_eq_grow, grow_grow]; rfl⟩
  · have q : ((a : Int) == (c : Int)) = false := by simp; omega
    by_cases e3 : a < c
    · have hv : cmpI a b c d = -1 := by simp [cmpI, e1, e3]
      rw [hv]
      clear hv
      go_enter Tryd.func40, Tryd.ntmps40
      go_wp2
      go_ret
      exact ⟨rfl, 0, _, by rw [alloc_eq_grow, alloc_eq_grow, grow_grow]; rfl⟩
    · have hv : cmpI a b c d = 1 := by simp [cmpI, e1, e3]
      rw [hv]
      clear hv
      go_enter Tryd.func40, Tryd.ntmps40
      go_wp2
      go_ret
      exact ⟨rfl, 0, _, by rw [alloc_eq_grow, alloc_eq_grow, grow_grow]; rfl⟩

theorem cmpLays_keyR (blk off size : Nat) (w : World) : CmpLays Tryd.prog 40 #[] encK 2 (fun x y : Ky => cmpI x.1 x.2 y.1 y.2) blk off size w :=
  fun _ _ _ _ x y => cmp_laysR x y _

/-- The sort at keys, from a row of the call's own. -/
theorem sort_key (g cap : Nat) (l : List Ky) (w : World) (hH : HoldsK encK 2 w g 0 l.toArray) (hg : g < w.heap.size) (hl : l.length ≤ 1000000) :
    Calls Tryd.prog 39 #[.slice (some ⟨g, 0, none⟩) l.length cap, .func (.func 40) #[] #[]] w fun e w' =>
      e = .returned (.tuple #[]) ∧ ∃ n os, w' = sortWorldK encK 2 w g 0 n (l.mergeSort fun x y => !ltK y x).toArray os := by
  have eg : ∀ args w, (callFunc 40 args).run Tryd.prog w = .ok (.enter 40 args) w := enters_of Tryd.func40 (by kernel_rfl) rfl
  have h := AnyQ.slices_SortFunc_total sortK 2 Tryd.isAgg40 Tryd.sizeOf40 encK (fun _ => rfl) encK_one (fun x y : Ky => cmpI x.1 x.2 y.1 y.2) swoKR 40 #[] g 0 cap l.toArray w eg (cmpLays_keyR g 0 l.toArray.size w) hH hg (by simp; omega)
    (fun x y h1 h2 => by rw [ltOf_keyR] at h1 h2; exact ltK_total h1 h2)
  rw [ltOf_keyR] at h
  exact h

theorem below_grow {B : Nat} {w0 w : World} (h : Below B w0 w) (hB : B ≤ w.heap.size) (os : Array Obj) : Below B w0 (grow w os) :=
  ⟨h.os, h.tape, h.output, by have := h.size; simp [grow]; omega, fun k hk => by
    rw [← h.block k hk]
    simp [grow, Array.getElem?_append, show k < w.heap.size by omega]⟩

theorem putRowK_size (w : World) (blk off : Nat) (d : Array Ky) : (putRowK encK 2 w blk off d).heap.size = w.heap.size := by simp [putRowK, putRow, mapBlock]

set_option maxRecDepth 100000 in
set_option maxHeartbeats 1000000 in
theorem compact_nil (w : World) : Calls Tryd.prog 41 #[.slice none 0 0] w fun e w' => e = .returned (.slice none 0 0) ∧ w' = w := by
  go_enter Tryd.func41, Tryd.ntmps41
  go_wp2
  go_ret
  exact ⟨rfl, rfl⟩

def HasKeys (w : World) (l : List Ky) (e : Ending) (w' : World) : Prop := ∃ v', e = .returned v' ∧ KeysIn w' v' l ∧ Below w.heap.size w w'

/-- What stands behind the three. -/
theorem rising_end {w w1 w2 w3 : World} {g n : Nat} {os : Array Obj} {l : List Ky} {e : Ending} (hb : Below w.heap.size w w1) (hH : HoldsK encK 2 w1 g 0 l.toArray) (hg : g < w1.heap.size) (hgb : w.heap.size ≤ g)
    (hw2 : w2 = sortWorldK encK 2 w1 g 0 n (l.mergeSort fun x y => !ltK y x).toArray os) (h : CompactSays w2 g 0 (l.mergeSort fun x y => !ltK y x).toArray e w3) : HasKeys w (risL l) e w3 := by
  obtain ⟨cap', q, F, rfl, rfl, hF, hc⟩ := h
  rw [compact_sort] at hc ⊢
  have hs : (l.mergeSort fun x y => !ltK y x).toArray.size = l.toArray.size := by simp
  have hH2 : HoldsK encK 2 w2 g 0 (l.mergeSort fun x y => !ltK y x).toArray := by
    rw [hw2]
    exact holdsK_grow encK 2 _ os g 0 _ (by rw [putRowK_size]; exact hg) (holdsK_putRowK encK 2 _ g 0 l.toArray _ (holdsK_ahead encK 2 w1 n g 0 _ hH) hs)
  have hb1 : Below w.heap.size w (putRowK encK 2 (Sort.ahead w1 n) g 0 (l.mergeSort fun x y => !ltK y x).toArray) := below_putRow hb hgb
  have hb2 : Below w.heap.size w w2 := by
    rw [hw2]
    exact below_grow hb1 hb1.size os
  have hg2 : g < w2.heap.size := by
    rw [hw2]
    show g < (grow _ os).heap.size
    simp only [grow, Array.size_append, putRowK_size]
    show g < w1.heap.size + os.size
    omega
  refine ⟨_, rfl, ⟨_, _, rfl, fun hn => ⟨g, 0, rfl, ?_, fun j u hu => ?_⟩⟩, below_putRow hb2 hgb⟩
  · have := (below_putRow (enc := id) (q := q) (d := F) (Below.refl g w2) (Nat.le_refl g)).size
    omega
  · have hj := hc j u hu
    have hjs := (Array.getElem?_eq_some_iff.1 hj).1
    have hcell := cell?_putRow id (Sort.ahead w2 q) g 0 (flatK encK 2 (l.mergeSort fun x y => !ltK y x).toArray) F (holdsK_ahead encK 2 w2 q g 0 _ hH2) (by rw [hF]; simp) j hjs
    rw [hcell, getElem!_pos F j hjs]
    have := (Array.getElem?_eq_some_iff.1 hj).2
    simp [this]

set_option maxRecDepth 100000 in
set_option maxHeartbeats 2000000 in
theorem rising_any (v : Value) (l : List Ky) (w : World) (hv : KeysIn w v l) (hl : l.length ≤ 1000000) :
    Calls Tryd.prog 24 #[v] w (HasKeys w (risL l)) := by
  have HC := Lib.hid (clone_any v l w hv hl)
  have hcl := len_risL l
  obtain ⟨A, c, rfl, _⟩ := id hv
  clear hv
  go_enter Tryd.func24, Tryd.ntmps24
  go_wp2_with (go_at_call 38; refine HC.out.mono ?_; rintro e w1 ⟨v1, rfl, hown, hb1⟩)
  rcases Go.Joins.ownsRow_forms hown with ⟨rfl, h0⟩ | ⟨g, cap, rfl⟩
  · obtain rfl : l = [] := List.eq_nil_of_length_eq_zero h0
    have hs := Lib.hid (AnyF.slices_SortFunc_none sortK none 0 (.func (.func 40) #[] #[]) w1)
    clear hown
    go_wp2_with (first
      | (go_at_call 39; refine hs.out.mono ?_; rintro e w2 ⟨rfl, rfl⟩)
      | (go_at_call 41; refine (compact_nil _).mono ?_; rintro e w3 ⟨rfl, rfl⟩))
    go_ret
    exact ⟨_, rfl, ⟨_, _, rfl, fun h => absurd h (by simp [risL])⟩, hb1⟩
  · obtain ⟨hH, hg, hgb, hcap⟩ := holds_own hown
    have hs := Lib.hid (sort_key g cap l w1 hH hg hl)
    have HH := Lib.hid hH
    have hsz : (l.mergeSort fun x y => !ltK y x).toArray.size = l.length := by simp
    clear hown hH
    go_wp2_with (first
      | (go_at_call 39; refine hs.out.mono ?_; rintro e w2 ⟨rfl, n, os, hw2⟩
         have hcc := Lib.hid (compact_any g 0 cap (l.mergeSort fun x y => !ltK y x).toArray w2 (by
           rw [hw2]
           exact holdsK_grow encK 2 _ os g 0 _ (by rw [putRowK_size]; exact hg) (holdsK_putRowK encK 2 _ g 0 l.toArray _ (holdsK_ahead encK 2 w1 n g 0 _ HH.out) (by simp))) (by simp; omega) (by simp; omega))
         rw [hsz] at hcc
         have HW := Lib.hid hw2
         clear hw2)
      | (go_at_call 41; refine hcc.out.mono ?_; intro e w3 hc3; obtain ⟨v3, rfl, hk3, hb3⟩ := rising_end hb1 HH.out hg hgb HW.out hc3; clear hc3; obtain ⟨A3, c3, rfl, _⟩ := id hk3; have Hk3 := Lib.hid hk3; clear hk3))
    go_ret
    exact ⟨_, rfl, Hk3.out, hb3⟩
end

end Go.Proofs.YtmndhffimlkjgaaDoor
