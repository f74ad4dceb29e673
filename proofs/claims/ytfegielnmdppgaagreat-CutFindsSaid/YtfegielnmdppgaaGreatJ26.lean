/- stripe.Stripe in memory: New, made; a nil stripe: Ingest, Trim, Note, Get, Keys, Len, Version, Freeze; stripe.Set of a nil stripe; Contracts of the shelf, laid at this program (by lay-plain.mjs; numbers by name); slices.SortFunc at keys, with Cmp: a row of the call's own, sorted. -/
import Derived.Test.YtfegielnmdppgaaGreatJ17
import Derived.Test.YtfegielnmdppgaaGreatJ05
import Derived.Laws.Cover3
import Derived.Test.YtfegielnmdppgaaGreatJ01
import Derived.Shelf.SlSortCmp.NoneTotal
import Derived.Test.YtfegielnmdppgaaGreatJ02
import Derived.Test.YtfegielnmdppgaaGreatJ03
import Derived.Test.YtfegielnmdppgaaGreatJ08
import Derived.Lib.SmallJoins
namespace Go.Proofs.YtfegielnmdppgaaGreat

section
set_option linter.unusedSimpArgs false
set_option linter.unusedVariables false
open Go.RowKit Go.Lib Go.Sort

/-- What a stripe keeps at a key: a node's block, what it has, its footprint. -/
abbrev NE := Nat × Nd × List Nat
def neV (b : NE) : Value := .pointer (some ⟨b.1, 0, none⟩)
def apart (a b : List Nat) : Prop := ∀ k ∈ a, k ∉ b
def StripeIn (w : World) (T : Nat) (c : Cfg) (ver : Nat) (es : List (KO × NE)) (rs rh : Nat) (fp : List Nat) : Prop :=
  ∃ M, w.heap[T]? = some (.cells #[.map (some M), .int .i64 c.st, .int .i64 c.sa, .int .i64 c.lo, .int .i64 c.hi, .int .i64 (ver : Nat)] 125 (0, 0)) ∧ MapIn koV neV w M es ∧ (∀ p ∈ es, NodeIn w p.2.1 p.2.2.1 rs rh p.2.2.2) ∧
    (∀ p ∈ es, ∀ q ∈ es, p.1 ≠ q.1 → apart p.2.2.2 q.2.2.2) ∧ (∀ p ∈ es, T ∉ p.2.2.2 ∧ M ∉ p.2.2.2) ∧ T ≠ M ∧ fp = T :: M :: es.flatMap (fun p => p.2.2.2)
theorem StripeIn.kept {w w' : World} {T : Nat} {c : Cfg} {ver : Nat} {es : List (KO × NE)} {rs rh : Nat} {fp : List Nat} (h : StripeIn w T c ver es rs rh fp) (hb : ∀ r ∈ fp, w'.heap[r]? = w.heap[r]?) : StripeIn w' T c ver es rs rh fp := by
  obtain ⟨M, h1, h2, h3, h4, h5, h6, rfl⟩ := h
  exact ⟨M, (hb T (List.mem_cons_self ..)).trans h1, h2.block (hb M (List.mem_cons_of_mem _ (List.mem_cons_self ..))), fun p hp => (h3 p hp).kept (fun r hr => hb r (List.mem_cons_of_mem _ (List.mem_cons_of_mem _ (List.mem_flatMap.2 ⟨p, hp, hr⟩)))), h4, h5, h6, rfl⟩
theorem StripeIn.lt {w : World} {T : Nat} {c : Cfg} {ver : Nat} {es : List (KO × NE)} {rs rh : Nat} {fp : List Nat} (h : StripeIn w T c ver es rs rh fp) : ∀ r ∈ fp, r < w.heap.size := by
  obtain ⟨M, h1, h2, h3, h4, h5, h6, rfl⟩ := h
  intro r hr
  rcases List.mem_cons.1 hr with rfl | hr
  · exact (Array.getElem?_eq_some_iff.1 h1).1
  rcases List.mem_cons.1 hr with rfl | hr
  · exact h2.lt
  · obtain ⟨p, hp, hr⟩ := List.mem_flatMap.1 hr
    exact (h3 p hp).lt r hr
theorem StripeIn.below {w w' : World} {T : Nat} {c : Cfg} {ver : Nat} {es : List (KO × NE)} {rs rh : Nat} {fp : List Nat} (h : StripeIn w T c ver es rs rh fp) (hb : Below w.heap.size w w') : StripeIn w' T c ver es rs rh fp := h.kept (fun r hr => hb.block r (h.lt r hr))

set_option maxRecDepth 100000 in
set_option maxHeartbeats 4000000 in
theorem smade_any (T : Nat) (c : Cfg) (ver : Nat) (es : List (KO × NE)) (rs rh : Nat) (fp : List Nat) (w : World) (h : StripeIn w T c ver es rs rh fp) :
    Calls Tryz.prog 116 #[.pointer (some ⟨T, 0, none⟩)] w fun e w' => e = .returned (.bool true) ∧ Below w.heap.size w w' := by
  obtain ⟨M, h1, h2, h3, h4, h5, h6, rfl⟩ := h
  have z0 : w.cell? ⟨T, 0, none⟩ = some (.map (some M)) := by simp only [World.cell?, h1]; rfl
  have hq : ∀ W, (binOp .neq 123 (.map (some M)) (.map none)).run Tryz.prog W = .ok (.bool true) W := fun W => run_neq_map_nil W _ _ _ (some M) Tryz.underlying123
  clear h1 h2 h3 h4 h5 h6
  go_enter Tryz.func116, Tryz.ntmps116
  go_wp2
  go_ret
  exact ⟨rfl, Below.refl _ _⟩

def NewStripe (w : World) (c : Cfg) (rs rh : Nat) (e : Ending) (w' : World) : Prop :=
  ∃ T fp, e = .returned (.pointer (some ⟨T, 0, none⟩)) ∧ StripeIn w' T c 0 [] rs rh fp ∧ (∀ k ∈ fp, w.heap.size ≤ k) ∧ Below w.heap.size w w'

set_option maxRecDepth 100000 in
set_option maxHeartbeats 4000000 in
theorem stripeNew_any (c : Cfg) (rs rh : Nat) (w : World) (hc : cfgB c = true) (hok : c.ok) :
    Calls Tryz.prog 49 #[cfgV c] w (NewStripe w c rs rh) := by
  have hE : cfgE c = 0 := by unfold cfgE; rw [if_pos hc]
  have HE := Lib.hid hE
  have HNR := Lib.hid (nodeRight_any c)
  obtain ⟨st, sa, lo, hi⟩ := c
  have hmm := @run_makeMap Tryz.prog
  clear hc hE
  unfold cfgV
  unfold cfgV at HNR
  go_enter Tryz.func49, Tryz.ntmps49
  go_wp2_with (go_at_call 64
               refine calls_named ?_
               intro W1 hW1
               have hb1 : Below w.heap.size w W1 := by rw [hW1]; exact balloc (Below.refl _ _) _
               have hx1 : W1.heap[w.heap.size]? = some (.cells #[.int .i64 st, .int .i64 sa, .int .i64 lo, .int .i64 hi] 23 (0, 0)) := by rw [hW1]; exact heap_alloc_new _ _
               clear hW1
               refine (HNR.out W1 hok).mono ?_
               rw [HE.out]
               rintro e w2 ⟨rfl, hb2⟩
               obtain ⟨a1, a2, a3⟩ := box_cells hb2 hx1
               have HB := Lib.hid (bthen hb1 hb2)
               clear hb1 hb2 hx1)
  go_ret
  have hsz := HB.out.size
  refine ⟨w2.heap.size + 1, [w2.heap.size + 1, w2.heap.size], rfl, ⟨w2.heap.size, box_new _ _ _, (MapIn.made w2).below (balloc (Below.refl _ _) _), fun p hp => by simp at hp, fun p hp => by simp at hp, fun p hp => by simp at hp, by omega, rfl⟩, fun k hk => by simp at hk; omega, balloc (balloc HB.out _) _⟩
end

section
set_option linter.unusedSimpArgs false
set_option linter.unusedVariables false
open Go.RowKit Go.Lib Go.Sort
end

section
set_option linter.unusedSimpArgs false
set_option linter.unusedVariables false
open Go.RowKit Go.Lib Go.Sort

def cfg1 : Cfg := ⟨1, 1, 1, 1⟩
end

section
set_option linter.unusedSimpArgs false
set_option linter.unusedVariables false
open Go.Shelf
def sortK_ren : Go.Shelf.Ren := ⟨fun | 6 => 141 | 15 => 185 | 14 => 184 | 28 => 233 | 29 => 234 | 20 => 225 | 21 => 226 | 22 => 227 | 23 => 228 | 24 => 229 | 25 => 230 | 26 => 231 | 27 => 232 | 46 => 254 | 47 => 255 | 48 => 256 | 49 => 257 | 50 => 258 | 57 => 265 | n => n, fun | 22 => 70 | 24 => 40 | 25 => 148 | 3 => 3 | 39 => 225 | 0 => 0 | 53 => 314 | 55 => 38 | 4 => 4 | 46 => 308 | 45 => 307 | 50 => 146 | 5 => 5 | 9 => 9 | 66 => 326 | 70 => 330 | 76 => 335 | 77 => 336 | n => n, fun | n => n⟩
theorem sortK : Go.Proofs.SlLaysF0.n6 Tryz.prog sortK_ren := {
  mixed := by kernel_rfl
  f6 := ⟨Tryz.f141.name, by decide, Tryz.func141.trans (congrArg some (by kernel_rfl))⟩
  f14 := ⟨Tryz.f184.name, by decide, Tryz.func184.trans (congrArg some (by kernel_rfl))⟩
  f15 := Tryz.func185.trans (congrArg some (by kernel_rfl))
  f20 := ⟨Tryz.f225.name, by decide, Tryz.func225.trans (congrArg some (by kernel_rfl))⟩
  f21 := ⟨Tryz.f226.name, by decide, Tryz.func226.trans (congrArg some (by kernel_rfl))⟩
  f22 := ⟨Tryz.f227.name, by decide, Tryz.func227.trans (congrArg some (by kernel_rfl))⟩
  f23 := ⟨Tryz.f228.name, by decide, Tryz.func228.trans (congrArg some (by kernel_rfl))⟩
  f24 := ⟨Tryz.f229.name, by decide, Tryz.func229.trans (congrArg some (by kernel_rfl))⟩
  f25 := ⟨Tryz.f230.name, by decide, Tryz.func230.trans (congrArg some (by kernel_rfl))⟩
  f26 := ⟨Tryz.f231.name, by decide, Tryz.func231.trans (congrArg some (by kernel_rfl))⟩
  f27 := ⟨Tryz.f232.name, by decide, Tryz.func232.trans (congrArg some (by kernel_rfl))⟩
  f28 := Tryz.func233.trans (congrArg some (by kernel_rfl))
  f29 := Tryz.func234.trans (congrArg some (by kernel_rfl))
  f46 := ⟨Tryz.f254.name, by decide, Tryz.func254.trans (congrArg some (by kernel_rfl))⟩
  f47 := Tryz.func255.trans (congrArg some (by kernel_rfl))
  f48 := Tryz.func256.trans (congrArg some (by kernel_rfl))
  f49 := ⟨Tryz.f257.name, by decide, Tryz.func257.trans (congrArg some (by kernel_rfl))⟩
  f50 := ⟨Tryz.f258.name, by decide, Tryz.func258.trans (congrArg some (by kernel_rfl))⟩
  f57 := ⟨Tryz.f265.name, by decide, Tryz.func265.trans (congrArg some (by kernel_rfl))⟩
  t0 := Tryz.underlying0
  a0 := Tryz.isAgg0
  z0 := Tryz.sizeOf0
  v0 := Tryz.zeroValue0
  t3 := Tryz.underlying3
  a3 := Tryz.isAgg3
  z3 := Tryz.sizeOf3
  v3 := Tryz.zeroValue3
  t4 := Tryz.underlying4
  a4 := Tryz.isAgg4
  z4 := Tryz.sizeOf4
  v4 := Tryz.zeroValue4
  t5 := Tryz.underlying5
  a5 := Tryz.isAgg5
  z5 := Tryz.sizeOf5
  v5 := Tryz.zeroValue5
  t9 := Tryz.underlying9
  a9 := Tryz.isAgg9
  z9 := Tryz.sizeOf9
  v9 := Tryz.zeroValue9
  t22 := Tryz.underlying70
  a22 := Tryz.isAgg70
  z22 := Tryz.sizeOf70
  v22 := Tryz.zeroValue70
  t25 := Tryz.underlying148
  a25 := Tryz.isAgg148
  z25 := Tryz.sizeOf148
  v25 := Tryz.zeroValue148
  t39 := Tryz.underlying225
  a39 := Tryz.isAgg225
  z39 := Tryz.sizeOf225
  v39 := Tryz.zeroValue225
  t45 := Tryz.underlying307
  a45 := Tryz.isAgg307
  z45 := Tryz.sizeOf307
  v45 := Tryz.zeroValue307
  t46 := Tryz.underlying308
  a46 := Tryz.isAgg308
  z46 := Tryz.sizeOf308
  v46 := Tryz.zeroValue308
  t50 := Tryz.underlying146
  a50 := Tryz.isAgg146
  z50 := Tryz.sizeOf146
  v50 := Tryz.zeroValue146
  t53 := Tryz.underlying314
  a53 := Tryz.isAgg314
  z53 := Tryz.sizeOf314
  v53 := Tryz.zeroValue314
  t55 := Tryz.underlying38
  a55 := Tryz.isAgg38
  z55 := Tryz.sizeOf38
  v55 := Tryz.zeroValue38
  t66 := Tryz.underlying326
  a66 := Tryz.isAgg326
  z66 := Tryz.sizeOf326
  v66 := Tryz.zeroValue326
  t70 := Tryz.underlying330
  a70 := Tryz.isAgg330
  z70 := Tryz.sizeOf330
  v70 := Tryz.zeroValue330
  t76 := Tryz.underlying335
  a76 := Tryz.isAgg335
  z76 := Tryz.sizeOf335
  v76 := Tryz.zeroValue335
  t77 := Tryz.underlying336
  a77 := Tryz.isAgg336
  z77 := Tryz.sizeOf336
  v77 := Tryz.zeroValue336 }
end

section
set_option linter.unusedSimpArgs false
set_option linter.unusedVariables false
open Go.RowKit Go.Lib Go.Sort Go.Shelf

/-! ### Cmp as the sort asks for it -/
theorem ltOf_key : (ltOf fun x y : Ky => cmpI x.1 x.2 y.1 y.2) = ltK := by
  funext x y
  show decide (cmpI x.1 x.2 y.1 y.2 < 0) = ltK x y
  unfold ltK
  by_cases h1 : x.1 = y.1
  · by_cases h2 : x.2 = y.2
    · have : cmpI x.1 x.2 y.1 y.2 = 0 := by simp [cmpI, h1, h2]
      rw [this]
      simp [h1, h2]
    · by_cases h3 : x.2 < y.2
      · have : cmpI x.1 x.2 y.1 y.2 = -1 := by simp [cmpI, h1, h2, h3]
        rw [this]
        simp [h1, h3]
      · have : cmpI x.1 x.2 y.1 y.2 = 1 := by simp [cmpI, h1, h2, h3]
        rw [this]
        simp [h1, h3]
  · by_cases h3 : x.1 < y.1
    · have : cmpI x.1 x.2 y.1 y.2 = -1 := by simp [cmpI, h1, h3]
      rw [this]
      simp [h1, h3]
    · have : cmpI x.1 x.2 y.1 y.2 = 1 := by simp [cmpI, h1, h3]
      rw [this]
      simp [h1, h3]

theorem swoK : SWO (ltOf fun x y : Ky => cmpI x.1 x.2 y.1 y.2) := by
  rw [ltOf_key]
  refine ⟨ltK_irrefl, fun x y z h1 h2 => ltK_trans h1 h2, fun x y z h1 h2 => ?_⟩
  cases h : ltK x z with
  | false => rfl
  | true =>
    cases h3 : ltK y x with
    | true => rw [ltK_trans h3 h] at h2; exact h2
    | false =>
      have := ltK_total h1 h3
      subst this
      rw [h] at h2
      exact h2

set_option maxRecDepth 100000 in
set_option maxHeartbeats 1000000 in
theorem cmp_lays (x y : Ky) (W : World) : Calls Tryz.prog 69 #[.agg #[.int .u64 x.1, .int .u64 x.2], .agg #[.int .u64 y.1, .int .u64 y.2]] W fun e w' => e = .returned (.int .i64 (cmpI x.1 x.2 y.1 y.2)) ∧ ∃ q os', w' = grow (W.drewN q) os' := by
  obtain ⟨a, b⟩ := x
  obtain ⟨c, d⟩ := y
  simp only
  by_cases e1 : a = c
  · subst e1
    by_cases e2 : b = d
    · subst e2
      have hv : cmpI a b a b = 0 := by simp [cmpI]
      rw [hv]
      clear hv
      go_enter Tryz.func69, Tryz.ntmps69
      go_wp2
      go_ret
      exact ⟨rfl, 0, _, by rw [alloc_eq_grow, alloc_eq_grow, grow_grow]; rfl⟩
    · have q : ((b : Int) == (d : Int)) = false := by simp; omega
      by_cases e3 : b < d
      · have hv : cmpI a b a d = -1 := by simp [cmpI, e2, e3]
        rw [hv]
        clear hv
        go_enter Tryz.func69, Tryz.ntmps69
        go_wp2
        go_ret
        exact ⟨rfl, 0, _, by rw [alloc_eq_grow, alloc_eq_grow, grow_grow]; rfl⟩
      · have hv : cmpI a b a d = 1 := by simp [cmpI, e2, e3]
        rw [hv]
        clear hv
        go_enter Tryz.func69, Tryz.ntmps69
        go_wp2
        go_ret
        exact ⟨rfl, 0, _, by rw [alloc_eq_grow, alloc_eq_grow, grow_grow]; rfl⟩
  · have q : ((a : Int) == (c : Int)) = false := by simp; omega
    by_cases e3 : a < c
    · have hv : cmpI a b c d = -1 := by simp [cmpI, e1, e3]
      rw [hv]
      clear hv
      go_enter Tryz.func69, Tryz.ntmps69
      go_wp2
      go_ret
      exact ⟨rfl, 0, _, by rw [alloc_eq_grow, alloc_eq_grow, grow_grow]; rfl⟩
    · have hv : cmpI a b c d = 1 := by simp [cmpI, e1, e3]
      rw [hv]
      clear hv
      go_enter Tryz.func69, Tryz.ntmps69
      go_wp2
      go_ret
      exact ⟨rfl, 0, _, by rw [alloc_eq_grow, alloc_eq_grow, grow_grow]; rfl⟩

theorem cmpLays_key (blk off size : Nat) (w : World) : CmpLays Tryz.prog 69 #[] keyC 2 (fun x y : Ky => cmpI x.1 x.2 y.1 y.2) blk off size w :=
  fun _ _ _ _ x y => cmp_lays x y _

theorem keyC_two (x : Ky) : (keyC x).length = 2 := rfl
theorem keyC_ones (x : Ky) : ∀ u ∈ keyC x, u.oneCell' = true := by
  intro u hu
  simp only [keyC, List.mem_cons, List.not_mem_nil, or_false] at hu
  rcases hu with rfl | rfl <;> rfl

/-- Keys, sorted. -/
def sortL (l : List Ky) : List Ky := l.mergeSort fun x y => !ltK y x

/-- The sort at keys, from a row of the call's own. -/
theorem sort_own {base : Nat} (v : Value) (l : List Ky) (w : World) (h : w.ownsRow base 40 2 v l.length (cellsOfRow keyC l)) (hl : l.length ≤ 1000000) :
    Calls Tryz.prog 141 #[v, .func (.func 69) #[] #[]] w fun e w' =>
      e = .returned (.tuple #[]) ∧ w'.ownsRow base 40 2 v l.length (cellsOfRow keyC (sortL l)) ∧ w.grownBy w' v.ownBlock := by
  have eg : ∀ args w, (callFunc 69 args).run Tryz.prog w = .ok (.enter 69 args) w := enters_of Tryz.func69 (by kernel_rfl) rfl
  rcases Go.Joins.ownsRow_forms h with ⟨rfl, h0⟩ | ⟨g, cap, rfl⟩
  · obtain rfl : l = [] := List.eq_nil_of_length_eq_zero h0
    refine (AnyF.slices_SortFunc_none sortK none 0 (.func (.func 69) #[] #[]) w).mono ?_
    rintro e w' ⟨rfl, rfl⟩
    exact ⟨rfl, by simpa [sortL] using h, ⟨rfl, rfl, rfl, Nat.le_refl _, fun _ _ _ => rfl⟩⟩
  · have hH := holdsK_own (f := keyC) (n := 2) keyC_two (by decide) h
    have hg := (h.lt g rfl).2
    have hs := AnyQ.slices_SortFunc_total sortK 2 Tryz.isAgg40 Tryz.sizeOf40 keyC (fun _ => rfl) keyC_ones (fun x y : Ky => cmpI x.1 x.2 y.1 y.2) swoK 69 #[] g 0 cap l.toArray w eg (cmpLays_key g 0 l.toArray.size w) hH hg (by simp; omega)
      (fun x y h1 h2 => by rw [ltOf_key] at h1 h2; exact ltK_total h1 h2)
    rw [ltOf_key] at hs
    refine Calls.mono hs ?_
    rintro e w' ⟨rfl, n, os, rfl⟩
    have hm : (sortL l).length = l.length := by simp [sortL]
    obtain ⟨h1, h2⟩ := own_putRowK (f := keyC) (n := 2) (m := sortL l) (k := n) keyC_two (by decide) h hm os
    rw [hm] at h1
    exact ⟨rfl, h1, h2⟩
end

end Go.Proofs.YtfegielnmdppgaaGreat
