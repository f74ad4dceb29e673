/- stripe.Stripe in memory: New, made; a nil stripe: Ingest, Trim, Note, Get, Keys, Len, Version, Freeze; stripe.Set of a nil stripe; Contracts of the shelf, laid at this program (by lay-plain.mjs; numbers by name); slices.SortFunc at keys, with Cmp: a row of the call's own, sorted; 'for k := range m' over a map that is a list of its entries. -/
import Derived.Test.YtmniiodpbebnmaaGreatJ13
import Derived.Test.YtmniiodpbebnmaaGreatJ05
import Derived.Laws.Cover3
import Derived.Test.YtmniiodpbebnmaaGreatJ01
import Derived.Shelf.SlSortCmp.NoneTotal
import Derived.Test.YtmniiodpbebnmaaGreatJ03
import Derived.Test.YtmniiodpbebnmaaGreatJ08
import Derived.Lib.SmallJoins
import Derived.Test.YtmniiodpbebnmaaGreatJ04
import Derived.Maps.Range
import Derived.RangeFuncSeq
namespace Go.Proofs.YtmniiodpbebnmaaGreat

section
set_option linter.unusedSimpArgs false
set_option linter.unusedVariables false
open Go.RowKit Go.Lib Go.Sort

/-- What a stripe keeps at a key: a node's block, what it has, its footprint. -/
abbrev NE := Nat × Nd × List Nat
def neV (b : NE) : Value := .pointer (some ⟨b.1, 0, none⟩)
def apart (a b : List Nat) : Prop := ∀ k ∈ a, k ∉ b
def StripeIn (w : World) (T : Nat) (c : Cfg) (ver : Nat) (es : List (KO × NE)) (rs rh : Nat) (fp : List Nat) : Prop :=
  ∃ M, w.heap[T]? = some (.cells #[.map (some M), .int .i64 c.st, .int .i64 c.sa, .int .i64 c.lo, .int .i64 c.hi, .int .i64 (ver : Nat)] 232 (0, 0)) ∧ MapIn koV neV w M es ∧ (∀ p ∈ es, NodeIn w p.2.1 p.2.2.1 rs rh p.2.2.2) ∧
    (∀ p ∈ es, ∀ q ∈ es, p.1 ≠ q.1 → apart p.2.2.2 q.2.2.2) ∧ (∀ p ∈ es, T ∉ p.2.2.2 ∧ M ∉ p.2.2.2) ∧ T ≠ M ∧ fp = T :: M :: es.flatMap (fun p => p.2.2.2)
theorem StripeIn.kept {w w' : World} {T : Nat} {c : Cfg} {ver : Nat} {es : List (KO × NE)} {rs rh : Nat} {fp : List Nat} (h : StripeIn w T c ver es rs rh fp) (hb : ∀ r ∈ fp, w'.heap[r]? = w.heap[r]?) : StripeIn w' T c ver es rs rh fp := by
  obtain ⟨M, h1, h2, h3, h4, h5, h6, rfl⟩ := h
  exact ⟨M, (hb T (List.mem_cons_self ..)).trans h1, h2.block (hb M (List.mem_cons_of_mem _ (List.mem_cons_self ..))), fun p hp => (h3 p hp).kept (fun r hr => hb r (List.mem_cons_of_mem _ (List.mem_cons_of_mem _ (List.mem_flatMap.2 ⟨p, hp, hr⟩)))), h4, h5, h6, rfl⟩
theorem StripeIn.lt {w : World} {T : Nat} {c : Cfg} {ver : Nat} {es : List (KO × NE)} {rs rh : Nat} {fp : List Nat} (h : StripeIn w T c ver es rs rh fp) : ∀ r ∈ fp, r < w.heap.size := by
  obtain ⟨M, h1, h2, h3, h4, h5, h6, rfl⟩ := h
  intro r hr
  rcases List.mem_cons.1 hr with rfl | hr
  · exact (Array.getElem?_eq_some_iff.1 h1).1
  rcases List.mem_cons.1 hr with rfl | hr
  · exact h2.lt
  · obtain ⟨p, hp, hr⟩ := List.mem_flatMap.1 hr
    exact (h3 p hp).lt r hr
theorem StripeIn.below {w w' : World} {T : Nat} {c : Cfg} {ver : Nat} {es : List (KO × NE)} {rs rh : Nat} {fp : List Nat} (h : StripeIn w T c ver es rs rh fp) (hb : Below w.heap.size w w') : StripeIn w' T c ver es rs rh fp := h.kept (fun r hr => hb.block r (h.lt r hr))

set_option maxRecDepth 100000 in
set_option maxHeartbeats 4000000 in
theorem smade_any (T : Nat) (c : Cfg) (ver : Nat) (es : List (KO × NE)) (rs rh : Nat) (fp : List Nat) (w : World) (h : StripeIn w T c ver es rs rh fp) :
    Calls Tryz.prog 149 #[.pointer (some ⟨T, 0, none⟩)] w fun e w' => e = .returned (.bool true) ∧ Below w.heap.size w w' := by
  obtain ⟨M, h1, h2, h3, h4, h5, h6, rfl⟩ := h
  have z0 : w.cell? ⟨T, 0, none⟩ = some (.map (some M)) := by simp only [World.cell?, h1]; rfl
  have hq : ∀ W, (binOp .neq 230 (.map (some M)) (.map none)).run Tryz.prog W = .ok (.bool true) W := fun W => run_neq_map_nil W _ _ _ (some M) Tryz.underlying230
  clear h1 h2 h3 h4 h5 h6
  go_enter Tryz.func149, Tryz.ntmps149
  go_wp2
  go_ret
  exact ⟨rfl, Below.refl _ _⟩

def NewStripe (w : World) (c : Cfg) (rs rh : Nat) (e : Ending) (w' : World) : Prop :=
  ∃ T fp, e = .returned (.pointer (some ⟨T, 0, none⟩)) ∧ StripeIn w' T c 0 [] rs rh fp ∧ (∀ k ∈ fp, w.heap.size ≤ k) ∧ Below w.heap.size w w'

set_option maxRecDepth 100000 in
set_option maxHeartbeats 4000000 in
theorem stripeNew_any (c : Cfg) (rs rh : Nat) (w : World) (hc : cfgB c = true) (hok : c.ok) :
    Calls Tryz.prog 79 #[cfgV c] w (NewStripe w c rs rh) := by
  have hE : cfgE c = 0 := by unfold cfgE; rw [if_pos hc]
  have HE := Lib.hid hE
  have HNR := Lib.hid (nodeRight_any c)
  obtain ⟨st, sa, lo, hi⟩ := c
  have hmm := @run_makeMap Tryz.prog
  clear hc hE
  unfold cfgV
  unfold cfgV at HNR
  go_enter Tryz.func79, Tryz.ntmps79
  go_wp2_with (go_at_call 46
               refine calls_named ?_
               intro W1 hW1
               have hb1 : Below w.heap.size w W1 := by rw [hW1]; exact balloc (Below.refl _ _) _
               have hx1 : W1.heap[w.heap.size]? = some (.cells #[.int .i64 st, .int .i64 sa, .int .i64 lo, .int .i64 hi] 23 (0, 0)) := by rw [hW1]; exact heap_alloc_new _ _
               clear hW1
               refine (HNR.out W1 hok).mono ?_
               rw [HE.out]
               rintro e w2 ⟨rfl, hb2⟩
               obtain ⟨a1, a2, a3⟩ := box_cells hb2 hx1
               have HB := Lib.hid (bthen hb1 hb2)
               clear hb1 hb2 hx1)
  go_ret
  have hsz := HB.out.size
  refine ⟨w2.heap.size + 1, [w2.heap.size + 1, w2.heap.size], rfl, ⟨w2.heap.size, box_new _ _ _, (MapIn.made w2).below (balloc (Below.refl _ _) _), fun p hp => by simp at hp, fun p hp => by simp at hp, fun p hp => by simp at hp, by omega, rfl⟩, fun k hk => by simp at hk; omega, balloc (balloc HB.out _) _⟩
end

section
set_option linter.unusedSimpArgs false
set_option linter.unusedVariables false
open Go.RowKit Go.Lib Go.Sort
end

section
set_option linter.unusedSimpArgs false
set_option linter.unusedVariables false
open Go.RowKit Go.Lib Go.Sort

def cfg1 : Cfg := ⟨1, 1, 1, 1⟩
end

section
set_option linter.unusedSimpArgs false
set_option linter.unusedVariables false
open Go.Shelf
def sortK_ren : Go.Shelf.Ren := ⟨fun | 6 => 167 | 15 => 206 | 14 => 218 | 28 => 253 | 29 => 254 | 20 => 261 | 21 => 262 | 22 => 263 | 23 => 264 | 24 => 265 | 25 => 266 | 26 => 267 | 27 => 268 | 46 => 298 | 47 => 289 | 48 => 290 | 49 => 299 | 50 => 300 | 57 => 308 | n => n, fun | 22 => 92 | 24 => 74 | 25 => 250 | 3 => 3 | 39 => 233 | 0 => 0 | 53 => 316 | 55 => 72 | 4 => 4 | 46 => 310 | 45 => 309 | 50 => 251 | 5 => 5 | 9 => 9 | 66 => 355 | 70 => 359 | 76 => 370 | 77 => 371 | n => n, fun | n => n⟩
theorem sortK : Go.Proofs.SlLaysF0.n6 Tryz.prog sortK_ren := {
  mixed := by kernel_rfl
  f6 := ⟨Tryz.f167.name, by decide, Tryz.func167.trans (congrArg some (by kernel_rfl))⟩
  f14 := ⟨Tryz.f218.name, by decide, Tryz.func218.trans (congrArg some (by kernel_rfl))⟩
  f15 := Tryz.func206.trans (congrArg some (by kernel_rfl))
  f20 := ⟨Tryz.f261.name, by decide, Tryz.func261.trans (congrArg some (by kernel_rfl))⟩
  f21 := ⟨Tryz.f262.name, by decide, Tryz.func262.trans (congrArg some (by kernel_rfl))⟩
  f22 := ⟨Tryz.f263.name, by decide, Tryz.func263.trans (congrArg some (by kernel_rfl))⟩
  f23 := ⟨Tryz.f264.name, by decide, Tryz.func264.trans (congrArg some (by kernel_rfl))⟩
  f24 := ⟨Tryz.f265.name, by decide, Tryz.func265.trans (congrArg some (by kernel_rfl))⟩
  f25 := ⟨Tryz.f266.name, by decide, Tryz.func266.trans (congrArg some (by kernel_rfl))⟩
  f26 := ⟨Tryz.f267.name, by decide, Tryz.func267.trans (congrArg some (by kernel_rfl))⟩
  f27 := ⟨Tryz.f268.name, by decide, Tryz.func268.trans (congrArg some (by kernel_rfl))⟩
  f28 := Tryz.func253.trans (congrArg some (by kernel_rfl))
  f29 := Tryz.func254.trans (congrArg some (by kernel_rfl))
  f46 := ⟨Tryz.f298.name, by decide, Tryz.func298.trans (congrArg some (by kernel_rfl))⟩
  f47 := Tryz.func289.trans (congrArg some (by kernel_rfl))
  f48 := Tryz.func290.trans (congrArg some (by kernel_rfl))
  f49 := ⟨Tryz.f299.name, by decide, Tryz.func299.trans (congrArg some (by kernel_rfl))⟩
  f50 := ⟨Tryz.f300.name, by decide, Tryz.func300.trans (congrArg some (by kernel_rfl))⟩
  f57 := ⟨Tryz.f308.name, by decide, Tryz.func308.trans (congrArg some (by kernel_rfl))⟩
  t0 := Tryz.underlying0
  a0 := Tryz.isAgg0
  z0 := Tryz.sizeOf0
  v0 := Tryz.zeroValue0
  t3 := Tryz.underlying3
  a3 := Tryz.isAgg3
  z3 := Tryz.sizeOf3
  v3 := Tryz.zeroValue3
  t4 := Tryz.underlying4
  a4 := Tryz.isAgg4
  z4 := Tryz.sizeOf4
  v4 := Tryz.zeroValue4
  t5 := Tryz.underlying5
  a5 := Tryz.isAgg5
  z5 := Tryz.sizeOf5
  v5 := Tryz.zeroValue5
  t9 := Tryz.underlying9
  a9 := Tryz.isAgg9
  z9 := Tryz.sizeOf9
  v9 := Tryz.zeroValue9
  t22 := Tryz.underlying92
  a22 := Tryz.isAgg92
  z22 := Tryz.sizeOf92
  v22 := Tryz.zeroValue92
  t25 := Tryz.underlying250
  a25 := Tryz.isAgg250
  z25 := Tryz.sizeOf250
  v25 := Tryz.zeroValue250
  t39 := Tryz.underlying233
  a39 := Tryz.isAgg233
  z39 := Tryz.sizeOf233
  v39 := Tryz.zeroValue233
  t45 := Tryz.underlying309
  a45 := Tryz.isAgg309
  z45 := Tryz.sizeOf309
  v45 := Tryz.zeroValue309
  t46 := Tryz.underlying310
  a46 := Tryz.isAgg310
  z46 := Tryz.sizeOf310
  v46 := Tryz.zeroValue310
  t50 := Tryz.underlying251
  a50 := Tryz.isAgg251
  z50 := Tryz.sizeOf251
  v50 := Tryz.zeroValue251
  t53 := Tryz.underlying316
  a53 := Tryz.isAgg316
  z53 := Tryz.sizeOf316
  v53 := Tryz.zeroValue316
  t55 := Tryz.underlying72
  a55 := Tryz.isAgg72
  z55 := Tryz.sizeOf72
  v55 := Tryz.zeroValue72
  t66 := Tryz.underlying355
  a66 := Tryz.isAgg355
  z66 := Tryz.sizeOf355
  v66 := Tryz.zeroValue355
  t70 := Tryz.underlying359
  a70 := Tryz.isAgg359
  z70 := Tryz.sizeOf359
  v70 := Tryz.zeroValue359
  t76 := Tryz.underlying370
  a76 := Tryz.isAgg370
  z76 := Tryz.sizeOf370
  v76 := Tryz.zeroValue370
  t77 := Tryz.underlying371
  a77 := Tryz.isAgg371
  z77 := Tryz.sizeOf371
  v77 := Tryz.zeroValue371 }
end

section
set_option linter.unusedSimpArgs false
set_option linter.unusedVariables false
open Go.RowKit Go.Lib Go.Sort Go.Shelf

/-! ### Cmp as the sort asks for it -/
theorem ltOf_key : (ltOf fun x y : Ky => cmpI x.1 x.2 y.1 y.2) = ltK := by
  funext x y
  show decide (cmpI x.1 x.2 y.1 y.2 < 0) = ltK x y
  unfold ltK
  by_cases h1 : x.1 = y.1
  · by_cases h2 : x.2 = y.2
    · have : cmpI x.1 x.2 y.1 y.2 = 0 := by simp [cmpI, h1, h2]
      rw [this]
      simp [h1, h2]
    · by_cases h3 : x.2 < y.2
      · have : cmpI x.1 x.2 y.1 y.2 = -1 := by simp [cmpI, h1, h2, h3]
        rw [this]
        simp [h1, h3]
      · have : cmpI x.1 x.2 y.1 y.2 = 1 := by simp [cmpI, h1, h2, h3]
        rw [this]
        simp [h1, h3]
  · by_cases h3 : x.1 < y.1
    · have : cmpI x.1 x.2 y.1 y.2 = -1 := by simp [cmpI, h1, h3]
      rw [this]
      simp [h1, h3]
    · have : cmpI x.1 x.2 y.1 y.2 = 1 := by simp [cmpI, h1, h3]
      rw [this]
      simp [h1, h3]

theorem swoK : SWO (ltOf fun x y : Ky => cmpI x.1 x.2 y.1 y.2) := by
  rw [ltOf_key]
  refine ⟨ltK_irrefl, fun x y z h1 h2 => ltK_trans h1 h2, fun x y z h1 h2 => ?_⟩
  cases h : ltK x z with
  | false => rfl
  | true =>
    cases h3 : ltK y x with
    | true => rw [ltK_trans h3 h] at h2; exact h2
    | false =>
      have := ltK_total h1 h3
      subst this
      rw [h] at h2
      exact h2

set_option maxRecDepth 100000 in
set_option maxHeartbeats 1000000 in
theorem cmp_lays (x y : Ky) (W : World) : Calls Tryz.prog 168 #[.agg #[.int .u64 x.1, .int .u64 x.2], .agg #[.int .u64 y.1, .int .u64 y.2]] W fun e w' => e = .returned (.int .i64 (cmpI x.1 x.2 y.1 y.2)) ∧ ∃ q os', w' = grow (W.drewN q) os' := by
  obtain ⟨a, b⟩ := x
  obtain ⟨c, d⟩ := y
  simp only
  by_cases e1 : a = c
  · subst e1
    by_cases e2 : b = d
    · subst e2
      have hv : cmpI a b a b = 0 := by simp [cmpI]
      rw [hv]
      clear hv
      go_enter Tryz.func168, Tryz.ntmps168
      go_wp2
      go_ret
      exact ⟨rfl, 0, _, by rw [alloc_eq_grow, alloc_eq_grow, grow_grow]; rfl⟩
    · have q : ((b : Int) == (d : Int)) = false := by simp; omega
      by_cases e3 : b < d
      · have hv : cmpI a b a d = -1 := by simp [cmpI, e2, e3]
        rw [hv]
        clear hv
        go_enter Tryz.func168, Tryz.ntmps168
        go_wp2
        go_ret
        exact ⟨rfl, 0, _, by rw [alloc_eq_grow, alloc_eq_grow, grow_grow]; rfl⟩
      · have hv : cmpI a b a d = 1 := by simp [cmpI, e2, e3]
        rw [hv]
        clear hv
        go_enter Tryz.func168, Tryz.ntmps168
        go_wp2
        go_ret
        exact ⟨rfl, 0, _, by rw [alloc_eq_grow, alloc_eq_grow, grow_grow]; rfl⟩
  · have q : ((a : Int) == (c : Int)) = false := by simp; omega
    by_cases e3 : a < c
    · have hv : cmpI a b c d = -1 := by simp [cmpI, e1, e3]
      rw [hv]
      clear hv
      go_enter Tryz.func168, Tryz.ntmps168
      go_wp2
      go_ret
      exact ⟨rfl, 0, _, by rw [alloc_eq_grow, alloc_eq_grow, grow_grow]; rfl⟩
    · have hv : cmpI a b c d = 1 := by simp [cmpI, e1, e3]
      rw [hv]
      clear hv
      go_enter Tryz.func168, Tryz.ntmps168
      go_wp2
      go_ret
      exact ⟨rfl, 0, _, by rw [alloc_eq_grow, alloc_eq_grow, grow_grow]; rfl⟩

theorem cmpLays_key (blk off size : Nat) (w : World) : CmpLays Tryz.prog 168 #[] keyC 2 (fun x y : Ky => cmpI x.1 x.2 y.1 y.2) blk off size w :=
  fun _ _ _ _ x y => cmp_lays x y _

theorem keyC_two (x : Ky) : (keyC x).length = 2 := rfl
theorem keyC_ones (x : Ky) : ∀ u ∈ keyC x, u.oneCell' = true := by
  intro u hu
  simp only [keyC, List.mem_cons, List.not_mem_nil, or_false] at hu
  rcases hu with rfl | rfl <;> rfl

/-- Keys, sorted. -/
def sortL (l : List Ky) : List Ky := l.mergeSort fun x y => !ltK y x

/-- The sort at keys, from a row of the call's own. -/
theorem sort_own {base : Nat} (v : Value) (l : List Ky) (w : World) (h : w.ownsRow base 74 2 v l.length (cellsOfRow keyC l)) (hl : l.length ≤ 1000000) :
    Calls Tryz.prog 167 #[v, .func (.func 168) #[] #[]] w fun e w' =>
      e = .returned (.tuple #[]) ∧ w'.ownsRow base 74 2 v l.length (cellsOfRow keyC (sortL l)) ∧ w.grownBy w' v.ownBlock := by
  have eg : ∀ args w, (callFunc 168 args).run Tryz.prog w = .ok (.enter 168 args) w := enters_of Tryz.func168 (by kernel_rfl) rfl
  rcases Go.Joins.ownsRow_forms h with ⟨rfl, h0⟩ | ⟨g, cap, rfl⟩
  · obtain rfl : l = [] := List.eq_nil_of_length_eq_zero h0
    refine (AnyF.slices_SortFunc_none sortK none 0 (.func (.func 168) #[] #[]) w).mono ?_
    rintro e w' ⟨rfl, rfl⟩
    exact ⟨rfl, by simpa [sortL] using h, ⟨rfl, rfl, rfl, Nat.le_refl _, fun _ _ _ => rfl⟩⟩
  · have hH := holdsK_own (f := keyC) (n := 2) keyC_two (by decide) h
    have hg := (h.lt g rfl).2
    have hs := AnyQ.slices_SortFunc_total sortK 2 Tryz.isAgg74 Tryz.sizeOf74 keyC (fun _ => rfl) keyC_ones (fun x y : Ky => cmpI x.1 x.2 y.1 y.2) swoK 168 #[] g 0 cap l.toArray w eg (cmpLays_key g 0 l.toArray.size w) hH hg (by simp; omega)
      (fun x y h1 h2 => by rw [ltOf_key] at h1 h2; exact ltK_total h1 h2)
    rw [ltOf_key] at hs
    refine Calls.mono hs ?_
    rintro e w' ⟨rfl, n, os, rfl⟩
    have hm : (sortL l).length = l.length := by simp [sortL]
    obtain ⟨h1, h2⟩ := own_putRowK (f := keyC) (n := 2) (m := sortL l) (k := n) keyC_two (by decide) h hm os
    rw [hm] at h1
    exact ⟨rfl, h1, h2⟩
end

section
set_option linter.unusedSimpArgs false
set_option linter.unusedVariables false
set_option linter.unusedSectionVars false
open Go.RowKit Go.Lib
open Go.Maps (Keyed)
open Go.ChangeMaps

/-- The map's entries as they lie, beside what they are. -/
structure EntsOf {α β : Type} (K : α → Value) (V : β → Value) (ents : Array MapEntry) (clock : Nat) (es : List (α × β)) : Prop where
  kv : ents.toList.map (fun e => (e.key, e.val)) = es.map (fun p => (K p.1, V p.2))
  born : (ents.toList.map (·.born)).Nodup
  old : ∀ e ∈ ents.toList, e.born < clock
  keys : (es.map (·.1)).Nodup

/-- A range under way: these entries have come; no more than cnt are to come. -/
def RangeIn {α β : Type} (K : α → Value) (V : β → Value) (w : World) (b r : Nat) (es pre : List (α × β)) (cnt : Nat) : Prop :=
  ∃ (ents : Array MapEntry) (clock since : Nat) (seen : Array Nat) (c0 : Nat) (ps : List MapEntry), w.heap[b]? = some (.map ents clock) ∧ EntsOf K V ents clock es ∧ w.heap[r]? = some (.mapIter (some b) since seen c0) ∧ (∀ e ∈ ents.toList, e.born < since) ∧ since ≤ c0 ∧ since ≤ clock ∧
    ps.map (fun e => (e.key, e.val)) = pre.map (fun p => (K p.1, V p.2)) ∧ seen.toList = ps.map (·.born) ∧ (∀ e ∈ ps, e ∈ ents.toList) ∧ (∀ p ∈ pre, p ∈ es) ∧ (pre.map (·.1)).Nodup ∧ (leftOf ents seen).size = cnt ∧ pre.length + cnt ≤ es.length

section
variable {α β : Type} [DecidableEq α] {K : α → Value} {V : β → Value} {P : Program} {k t e : TypeId} {w : World} {b r : Nat} {es pre : List (α × β)} {cnt : Nat}

theorem RangeIn.map_ (h : RangeIn K V w b r es pre cnt) : MapIn K V w b es := by
  obtain ⟨ents, clock, _, _, _, _, hb, hE, _⟩ := h
  exact ⟨ents, clock, hb, hE.kv, hE.born, hE.old, hE.keys⟩
theorem RangeIn.lt (h : RangeIn K V w b r es pre cnt) : r < w.heap.size := by
  obtain ⟨_, _, _, _, _, _, _, _, hr, _⟩ := h
  exact (Array.getElem?_eq_some_iff.1 hr).1
theorem RangeIn.ne (h : RangeIn K V w b r es pre cnt) : r ≠ b := by
  obtain ⟨_, _, _, _, _, _, hb, _, hr, _⟩ := h
  intro e
  rw [e, hb] at hr
  cases hr
theorem RangeIn.left_eq (h : RangeIn K V w b r es pre cnt) : w.rangeLeft b r = cnt := by
  obtain ⟨_, _, _, _, _, _, hb, _, hr, _, _, _, _, _, _, _, _, hc, _⟩ := h
  simp only [World.rangeLeft, hb, hr]
  exact hc
theorem RangeIn.iter_walk (h : RangeIn K V w b r es pre cnt) : ∃ o : Obj, w.heap[r]? = some o ∧ o.isWalk = true := by
  obtain ⟨_, _, _, _, _, _, hb, _, hr, _⟩ := h
  exact ⟨_, hr, rfl⟩
theorem RangeIn.of_walks {w' : World} (h : RangeIn K V w b r es pre cnt) (hk : KeepsWalks w w') : RangeIn K V w' b r es pre cnt := by
  obtain ⟨ents, clock, since, seen, c0, ps, hb, hE, hr, rest⟩ := h
  exact ⟨ents, clock, since, seen, c0, ps, hk.same b _ hb rfl, hE, hk.same r _ hr rfl, rest⟩
theorem RangeIn.kept {w' : World} (h : RangeIn K V w b r es pre cnt) (h1 : w'.heap[b]? = w.heap[b]?) (h2 : w'.heap[r]? = w.heap[r]?) : RangeIn K V w' b r es pre cnt := by
  obtain ⟨ents, clock, since, seen, c0, ps, hb, hE, hr, rest⟩ := h
  exact ⟨ents, clock, since, seen, c0, ps, h1.trans hb, hE, h2.trans hr, rest⟩

/-- 'range m'. -/
theorem MapIn.range (h : MapIn K V w b es) (ht : P.underlying t = some (.map k e)) :
    ∃ w', (Instr.range t (.map (some b))).run P w = .ok (.pointer (some ⟨w.heap.size, 0, none⟩)) w' ∧ RangeIn K V w' b w.heap.size es [] es.length ∧ w.grownBy w' none ∧ w'.heap.size = w.heap.size + 1 := by
  have hlt := h.lt
  obtain ⟨ents, clock, hb, h1, h2, h3, h4⟩ := h
  have hs : ents.size = es.length := by simpa using congrArg List.length h1
  exact ⟨_, run_range_map w t k e b ents clock ht hb, ⟨ents, clock, clock, #[], clock, [], ((MapKept.heap_alloc w _).2 b hlt).trans hb, ⟨h1, h2, h3, h4⟩, (MapKept.heap_alloc w _).1, h3, Nat.le_refl _, Nat.le_refl _, rfl, rfl, fun _ h => by simp at h, fun _ h => by simp at h, List.nodup_nil, by rw [← hs]; simp [leftOf], by simp⟩, World.grownBy_alloc w _ none, by simp⟩

/-- The step. -/
theorem RangeIn.next (h : RangeIn K V w b r es pre cnt) (inj : ∀ x y, K x = K y → x = y) (ty : TypeId) :
    (cnt = 0 ∧ (pre.map (·.1)).Perm (es.map (·.1)) ∧ (Instr.next (.pointer (some ⟨r, 0, none⟩)) false ty).run P w = .ok (.tuple #[.bool false]) w) ∨
    ∃ p w' cnt', p ∈ es ∧ p.1 ∉ pre.map (·.1) ∧ (Instr.next (.pointer (some ⟨r, 0, none⟩)) false ty).run P w = .ok (.tuple #[.bool true, K p.1, V p.2]) w' ∧
      RangeIn K V w' b r es (pre ++ [p]) cnt' ∧ cnt' < cnt ∧ w.grownBy w' (some r) ∧ w'.heap.size = w.heap.size ∧ (Instr.entry (.pointer (some ⟨r, 0, none⟩))).run P w' = .ok (.tuple #[K p.1, V p.2]) w' := by
  have hne := h.ne
  obtain ⟨ents, clock, since, seen, c0, ps, hb, hE, hr, hold, hsc, hsk, hps, hseen, hsub, hpre, hnd, rfl, hcnt⟩ := h
  rcases run_next_at (P := P) w ty r b since c0 seen ents clock hr hb hold hsc with ⟨h0, hrun⟩ | ⟨e, he, w1, hal, hrun⟩
  · refine Or.inl ⟨h0, ?_, hrun⟩
    refine (List.perm_ext_iff_of_nodup hnd hE.keys).2 (fun x => ⟨fun hx => ?_, fun hx => ?_⟩)
    · obtain ⟨p, hp, rfl⟩ := List.mem_map.1 hx
      exact List.mem_map.2 ⟨p, hpre p hp, rfl⟩
    · obtain ⟨p, hp, rfl⟩ := List.mem_map.1 hx
      obtain ⟨j, hj⟩ := List.getElem?_of_mem hp
      have := congrArg (·[j]?) hE.kv
      simp only [List.getElem?_map, hj, Option.map_some] at this
      cases hej : ents.toList[j]? with
      | none => rw [hej] at this; cases this
      | some e0 =>
        rw [hej] at this
        simp only [Option.map_some, Option.some.injEq, Prod.mk.injEq] at this
        have hs := all_seen ents seen h0 e0 (List.mem_of_getElem? hej)
        have hs' : e0.born ∈ ps.map (·.born) := by rw [← hseen]; simpa using hs
        obtain ⟨e1, he1, hborn⟩ := List.mem_map.1 hs'
        obtain rfl := born_inj hE.born (hsub e1 he1) (List.mem_of_getElem? hej) hborn
        obtain ⟨q, hq, hk, hv⟩ := ents_mem hps he1
        exact List.mem_map.2 ⟨q, hq, inj _ _ (hk.symm.trans this.1)⟩
  · obtain ⟨hem, hes⟩ := mem_left he
    obtain ⟨j, hj⟩ := List.getElem?_of_mem hem
    obtain ⟨p, hp, hk, hv⟩ := ents_at hE.kv hj
    have hpm := List.mem_of_getElem? hp
    have hnew : p.1 ∉ pre.map (·.1) := by
      intro hx
      obtain ⟨q, hq, hqp⟩ := List.mem_map.1 hx
      obtain ⟨i, hi⟩ := List.getElem?_of_mem hq
      have := congrArg (·[i]?) hps
      simp only [List.getElem?_map, hi, Option.map_some] at this
      cases hei : ps[i]? with
      | none => rw [hei] at this; cases this
      | some e0 =>
        rw [hei] at this
        simp only [Option.map_some, Option.some.injEq, Prod.mk.injEq] at this
        have he0 := List.mem_of_getElem? hei
        obtain ⟨m, hm⟩ := List.getElem?_of_mem (hsub e0 he0)
        obtain ⟨q', hq', hk', hv'⟩ := ents_at hE.kv hm
        have h1 : q'.1 = p.1 := (inj _ _ (hk'.symm.trans this.1)).trans hqp
        have hm1 : (es.map (·.1))[m]? = some p.1 := by simp [hq', h1]
        have hj1 : (es.map (·.1))[j]? = some p.1 := by simp [hp]
        obtain rfl := nodup_inj hE.keys hm1 hj1
        rw [hj] at hm
        injection hm with hm
        subst hm
        have : e.born ∈ seen.toList := by rw [hseen]; exact List.mem_map.2 ⟨e, he0, rfl⟩
        have : seen.contains e.born = true := by simpa using this
        rw [this] at hes
        cases hes
    have hr1 : w1.heap[r]? = some (.mapIter (some b) since seen c0) := by rcases hal with rfl | rfl <;> exact hr
    have hb1 : w1.heap[b]? = some (.map ents clock) := by rcases hal with rfl | rfl <;> exact hb
    have hset := Go.MapKept.heap_set (o' := .mapIter (some b) since (seen.push e.born) clock) hr1
    have hb' : (setBlock w1 r (.mapIter (some b) since (seen.push e.born) clock)).heap[b]? = some (.map ents clock) := (hset.2 b (fun e1 => hne e1.symm)).trans hb1
    have hsh := left_shrinks ents seen e he
    refine Or.inr ⟨p, _, _, hpm, hnew, by rw [← hk, ← hv]; exact hrun,
      ⟨ents, clock, since, seen.push e.born, clock, ps ++ [e], hb', hE, hset.1, hold, hsk, hsk, by rw [List.map_append, List.map_append, hps]; simp [hk, hv], by rw [Array.toList_push, hseen]; simp, fun x hx => ?_, fun q hq => ?_, ?_, rfl, ?_⟩, hsh, ?_, ?_, ?_⟩
    · rcases List.mem_append.1 hx with h | h
      · exact hsub x h
      · rw [List.mem_singleton.1 h]; exact hem
    · rcases List.mem_append.1 hq with h | h
      · exact hpre q h
      · rw [List.mem_singleton.1 h]; exact hpm
    · rw [List.map_append, List.nodup_append]
      refine ⟨hnd, by simp, fun a ha c hc => ?_⟩
      simp only [List.map_cons, List.map_nil, List.mem_singleton] at hc
      subst hc
      exact fun e1 => hnew (e1 ▸ ha)
    · rw [List.length_append, List.length_singleton]; omega
    · rcases hal with rfl | rfl <;> exact ⟨rfl, rfl, rfl, by simp [setBlock], fun i _ hi => hset.2 i (fun e1 => hi (by rw [e1]))⟩
    · rcases hal with rfl | rfl <;> simp [setBlock]
    · rw [← hk, ← hv]
      exact run_entry_at _ r b since seen ents clock e hset.1 hb' hem hE.born
end
end

end Go.Proofs.YtmniiodpbebnmaaGreat
