/- Contracts of the shelf, laid at this program (by lay-plain.mjs; numbers by name); slices.SortFunc at keys, with Cmp: a row of the call's own, sorted. -/
import Derived.Test.YtfnabpmdjfejbaaGreatJ01
import Derived.Shelf.SlSortCmp.NoneTotal
import Derived.Test.YtfnabpmdjfejbaaGreatJ04
import Derived.Test.YtfnabpmdjfejbaaGreatJ06
import Derived.Test.YtfnabpmdjfejbaaGreatJ15
import Derived.Test.YtfnabpmdjfejbaaGreatJ05
import Derived.Lib.SmallJoins
namespace Go.Proofs.YtfnabpmdjfejbaaGreat

section
set_option linter.unusedSimpArgs false
set_option linter.unusedVariables false
open Go.Shelf
def sortK_ren : Go.Shelf.Ren := ⟨fun | 6 => 67 | 15 => 82 | 14 => 81 | 28 => 97 | 29 => 98 | 20 => 89 | 21 => 90 | 22 => 91 | 23 => 92 | 24 => 93 | 25 => 94 | 26 => 95 | 27 => 96 | 46 => 103 | 47 => 104 | 48 => 105 | 49 => 106 | 50 => 107 | 57 => 109 | n => n, fun | 22 => 81 | 24 => 32 | 25 => 118 | 3 => 3 | 39 => 145 | 0 => 0 | 53 => 162 | 55 => 30 | 4 => 4 | 46 => 155 | 45 => 154 | 50 => 159 | 5 => 5 | 9 => 9 | 66 => 166 | 70 => 170 | 76 => 173 | 77 => 43 | n => n, fun | n => n⟩
theorem sortK : Go.Proofs.SlLaysF0.n6 Tryz.prog sortK_ren := {
  mixed := by kernel_rfl
  f6 := ⟨Tryz.f67.name, by decide, Tryz.func67.trans (congrArg some (by kernel_rfl))⟩
  f14 := ⟨Tryz.f81.name, by decide, Tryz.func81.trans (congrArg some (by kernel_rfl))⟩
  f15 := Tryz.func82.trans (congrArg some (by kernel_rfl))
  f20 := ⟨Tryz.f89.name, by decide, Tryz.func89.trans (congrArg some (by kernel_rfl))⟩
  f21 := ⟨Tryz.f90.name, by decide, Tryz.func90.trans (congrArg some (by kernel_rfl))⟩
  f22 := ⟨Tryz.f91.name, by decide, Tryz.func91.trans (congrArg some (by kernel_rfl))⟩
  f23 := ⟨Tryz.f92.name, by decide, Tryz.func92.trans (congrArg some (by kernel_rfl))⟩
  f24 := ⟨Tryz.f93.name, by decide, Tryz.func93.trans (congrArg some (by kernel_rfl))⟩
  f25 := ⟨Tryz.f94.name, by decide, Tryz.func94.trans (congrArg some (by kernel_rfl))⟩
  f26 := ⟨Tryz.f95.name, by decide, Tryz.func95.trans (congrArg some (by kernel_rfl))⟩
  f27 := ⟨Tryz.f96.name, by decide, Tryz.func96.trans (congrArg some (by kernel_rfl))⟩
  f28 := Tryz.func97.trans (congrArg some (by kernel_rfl))
  f29 := Tryz.func98.trans (congrArg some (by kernel_rfl))
  f46 := ⟨Tryz.f103.name, by decide, Tryz.func103.trans (congrArg some (by kernel_rfl))⟩
  f47 := Tryz.func104.trans (congrArg some (by kernel_rfl))
  f48 := Tryz.func105.trans (congrArg some (by kernel_rfl))
  f49 := ⟨Tryz.f106.name, by decide, Tryz.func106.trans (congrArg some (by kernel_rfl))⟩
  f50 := ⟨Tryz.f107.name, by decide, Tryz.func107.trans (congrArg some (by kernel_rfl))⟩
  f57 := ⟨Tryz.f109.name, by decide, Tryz.func109.trans (congrArg some (by kernel_rfl))⟩
  t0 := Tryz.underlying0
  a0 := Tryz.isAgg0
  z0 := Tryz.sizeOf0
  v0 := Tryz.zeroValue0
  t3 := Tryz.underlying3
  a3 := Tryz.isAgg3
  z3 := Tryz.sizeOf3
  v3 := Tryz.zeroValue3
  t4 := Tryz.underlying4
  a4 := Tryz.isAgg4
  z4 := Tryz.sizeOf4
  v4 := Tryz.zeroValue4
  t5 := Tryz.underlying5
  a5 := Tryz.isAgg5
  z5 := Tryz.sizeOf5
  v5 := Tryz.zeroValue5
  t9 := Tryz.underlying9
  a9 := Tryz.isAgg9
  z9 := Tryz.sizeOf9
  v9 := Tryz.zeroValue9
  t22 := Tryz.underlying81
  a22 := Tryz.isAgg81
  z22 := Tryz.sizeOf81
  v22 := Tryz.zeroValue81
  t25 := Tryz.underlying118
  a25 := Tryz.isAgg118
  z25 := Tryz.sizeOf118
  v25 := Tryz.zeroValue118
  t39 := Tryz.underlying145
  a39 := Tryz.isAgg145
  z39 := Tryz.sizeOf145
  v39 := Tryz.zeroValue145
  t45 := Tryz.underlying154
  a45 := Tryz.isAgg154
  z45 := Tryz.sizeOf154
  v45 := Tryz.zeroValue154
  t46 := Tryz.underlying155
  a46 := Tryz.isAgg155
  z46 := Tryz.sizeOf155
  v46 := Tryz.zeroValue155
  t50 := Tryz.underlying159
  a50 := Tryz.isAgg159
  z50 := Tryz.sizeOf159
  v50 := Tryz.zeroValue159
  t53 := Tryz.underlying162
  a53 := Tryz.isAgg162
  z53 := Tryz.sizeOf162
  v53 := Tryz.zeroValue162
  t55 := Tryz.underlying30
  a55 := Tryz.isAgg30
  z55 := Tryz.sizeOf30
  v55 := Tryz.zeroValue30
  t66 := Tryz.underlying166
  a66 := Tryz.isAgg166
  z66 := Tryz.sizeOf166
  v66 := Tryz.zeroValue166
  t70 := Tryz.underlying170
  a70 := Tryz.isAgg170
  z70 := Tryz.sizeOf170
  v70 := Tryz.zeroValue170
  t76 := Tryz.underlying173
  a76 := Tryz.isAgg173
  z76 := Tryz.sizeOf173
  v76 := Tryz.zeroValue173
  t77 := Tryz.underlying43
  a77 := Tryz.isAgg43
  z77 := Tryz.sizeOf43
  v77 := Tryz.zeroValue43 }
end

section
set_option linter.unusedSimpArgs false
set_option linter.unusedVariables false
open Go.RowKit Go.Lib Go.Sort Go.Shelf

/-! ### Cmp as the sort asks for it -/
theorem ltOf_key : (ltOf fun x y : Ky => cmpI x.1 x.2 y.1 y.2) = ltK := by
  funext x y
  show decide (cmpI x.1 x.2 y.1 y.2 < 0) = ltK x y
  unfold ltK
  by_cases h1 : x.1 = y.1
  · by_cases h2 : x.2 = y.2
    · have : cmpI x.1 x.2 y.1 y.2 = 0 := by simp [cmpI, h1, h2]
      rw [this]
      simp [h1, h2]
    · by_cases h3 : x.2 < y.2
      · have : cmpI x.1 x.2 y.1 y.2 = -1 := by simp [cmpI, h1, h2, h3]
        rw [this]
        simp [h1, h3]
      · have : cmpI x.1 x.2 y.1 y.2 = 1 := by simp [cmpI, h1, h2, h3]
        rw [this]
        simp [h1, h3]
  · by_cases h3 : x.1 < y.1
    · have : cmpI x.1 x.2 y.1 y.2 = -1 := by simp [cmpI, h1, h3]
      rw [this]
      simp [h1, h3]
    · have : cmpI x.1 x.2 y.1 y.2 = 1 := by simp [cmpI, h1, h3]
      rw [this]
      simp [h1, h3]

theorem swoK : SWO (ltOf fun x y : Ky => cmpI x.1 x.2 y.1 y.2) := by
  rw [ltOf_key]
  refine ⟨ltK_irrefl, fun x y z h1 h2 => ltK_trans h1 h2, fun x y z h1 h2 => ?_⟩
  cases h : ltK x z with
  | false => rfl
  | true =>
    cases h3 : ltK y x with
    | true => rw [ltK_trans h3 h] at h2; exact h2
    | false =>
      have := ltK_total h1 h3
      subst this
      rw [h] at h2
      exact h2

set_option maxRecDepth 100000 in
set_option maxHeartbeats 1000000 in
theorem cmp_lays (x y : Ky) (W : World) : Calls Tryz.prog 55 #[.agg #[.int .u64 x.1, .int .u64 x.2], .agg #[.int .u64 y.1, .int .u64 y.2]] W fun e w' => e = .returned (.int .i64 (cmpI x.1 x.2 y.1 y.2)) ∧ ∃ q os', w' = grow (W.drewN q) os' := by
  obtain ⟨a, b⟩ := x
  obtain ⟨c, d⟩ := y
  simp only
  by_cases e1 : a = c
  · subst e1
    by_cases e2 : b = d
    · subst e2
      have hv : cmpI a b a b = 0 := by simp [cmpI]
      rw [hv]
      clear hv
      go_enter Tryz.func55, Tryz.ntmps55
      go_wp2
      go_ret
      exact ⟨rfl, 0, _, by rw [alloc_eq_grow, alloc_eq_grow, grow_grow]; rfl⟩
    · have q : ((b : Int) == (d : Int)) = false := by simp; omega
      by_cases e3 : b < d
      · have hv : cmpI a b a d = -1 := by simp [cmpI, e2, e3]
        rw [hv]
        clear hv
        go_enter Tryz.func55, Tryz.ntmps55
        go_wp2
        go_ret
        exact ⟨rfl, 0, _, by rw [alloc_eq_grow, alloc_eq_grow, grow_grow]; rfl⟩
      · have hv : cmpI a b a d = 1 := by simp [cmpI, e2, e3]
        rw [hv]
        clear hv
        go_enter Tryz.func55, Tryz.ntmps55
        go_wp2
        go_ret
        exact ⟨rfl, 0, _, by rw [alloc_eq_grow, alloc_eq_grow, grow_grow]; rfl⟩
  · have q : ((a : Int) == (c : Int)) = false := by simp; omega
    by_cases e3 : a < c
    · have hv : cmpI a b c d = -1 := by simp [cmpI, e1, e3]
      rw [hv]
      clear hv
      go_enter Tryz.func55, Tryz.ntmps55
      go_wp2
      go_ret
      exact ⟨rfl, 0, _, by rw [alloc_eq_grow, alloc_eq_grow, grow_grow]; rfl⟩
    · have hv : cmpI a b c d = 1 := by simp [cmpI, e1, e3]
      rw [hv]
      clear hv
      go_enter Tryz.func55, Tryz.ntmps55
      go_wp2
      go_ret
      exact ⟨rfl, 0, _, by rw [alloc_eq_grow, alloc_eq_grow, grow_grow]; rfl⟩

theorem cmpLays_key (blk off size : Nat) (w : World) : CmpLays Tryz.prog 55 #[] keyC 2 (fun x y : Ky => cmpI x.1 x.2 y.1 y.2) blk off size w :=
  fun _ _ _ _ x y => cmp_lays x y _

theorem keyC_two (x : Ky) : (keyC x).length = 2 := rfl
theorem keyC_ones (x : Ky) : ∀ u ∈ keyC x, u.oneCell' = true := by
  intro u hu
  simp only [keyC, List.mem_cons, List.not_mem_nil, or_false] at hu
  rcases hu with rfl | rfl <;> rfl

/-- Keys, sorted. -/
def sortL (l : List Ky) : List Ky := l.mergeSort fun x y => !ltK y x

/-- The sort at keys, from a row of the call's own. -/
theorem sort_own {base : Nat} (v : Value) (l : List Ky) (w : World) (h : w.ownsRow base 32 2 v l.length (cellsOfRow keyC l)) (hl : l.length ≤ 1000000) :
    Calls Tryz.prog 67 #[v, .func (.func 55) #[] #[]] w fun e w' =>
      e = .returned (.tuple #[]) ∧ w'.ownsRow base 32 2 v l.length (cellsOfRow keyC (sortL l)) ∧ w.grownBy w' v.ownBlock := by
  have eg : ∀ args w, (callFunc 55 args).run Tryz.prog w = .ok (.enter 55 args) w := enters_of Tryz.func55 (by kernel_rfl) rfl
  rcases Go.Joins.ownsRow_forms h with ⟨rfl, h0⟩ | ⟨g, cap, rfl⟩
  · obtain rfl : l = [] := List.eq_nil_of_length_eq_zero h0
    refine (AnyF.slices_SortFunc_none sortK none 0 (.func (.func 55) #[] #[]) w).mono ?_
    rintro e w' ⟨rfl, rfl⟩
    exact ⟨rfl, by simpa [sortL] using h, ⟨rfl, rfl, rfl, Nat.le_refl _, fun _ _ _ => rfl⟩⟩
  · have hH := holdsK_own (f := keyC) (n := 2) keyC_two (by decide) h
    have hg := (h.lt g rfl).2
    have hs := AnyQ.slices_SortFunc_total sortK 2 Tryz.isAgg32 Tryz.sizeOf32 keyC (fun _ => rfl) keyC_ones (fun x y : Ky => cmpI x.1 x.2 y.1 y.2) swoK 55 #[] g 0 cap l.toArray w eg (cmpLays_key g 0 l.toArray.size w) hH hg (by simp; omega)
      (fun x y h1 h2 => by rw [ltOf_key] at h1 h2; exact ltK_total h1 h2)
    rw [ltOf_key] at hs
    refine Calls.mono hs ?_
    rintro e w' ⟨rfl, n, os, rfl⟩
    have hm : (sortL l).length = l.length := by simp [sortL]
    obtain ⟨h1, h2⟩ := own_putRowK (f := keyC) (n := 2) (m := sortL l) (k := n) keyC_two (by decide) h hm os
    rw [hm] at h1
    exact ⟨rfl, h1, h2⟩
end

end Go.Proofs.YtfnabpmdjfejbaaGreat
