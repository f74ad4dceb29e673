/- slices.SortFunc at keys, with Cmp: a row of the call's own, sorted; 'for k := range m' over a map that is a list of its entries; maps.Keys, slices.SortedFunc, workq's rising; Waiting, Busy, Dirty; a stripe's Keys and Len. -/
import Derived.Test.YtmniiodpbebnmaaGreatC11
import Derived.Test.YtmniiodpbebnmaaGreatC02
import Derived.Test.YtmniiodpbebnmaaGreatC03
import Derived.Test.YtmniiodpbebnmaaGreatC07
import Derived.Lib.SmallJoins
import Derived.Maps.Range
import Derived.RangeFuncSeq
import Derived.Test.YtmniiodpbebnmaaGreatC04
import Derived.Sort.MapsRangeIn
namespace Go.Proofs.YtmniiodpbebnmaaGreat

section
set_option linter.unusedSimpArgs false
set_option linter.unusedVariables false
open Go.RowKit Go.Lib Go.Sort Go.Shelf

/-! ### Cmp as the sort asks for it -/
theorem ltOf_key : (ltOf fun x y : Ky => cmpI x.1 x.2 y.1 y.2) = ltK := by
  funext x y
  show decide (cmpI x.1 x.2 y.1 y.2 < 0) = ltK x y
  unfold ltK
  by_cases h1 : x.1 = y.1
  · by_cases h2 : x.2 = y.2
    · have : cmpI x.1 x.2 y.1 y.2 = 0 := by simp [cmpI, h1, h2]
      rw [this]
      simp [h1, h2]
    · by_cases h3 : x.2 < y.2
      · have : cmpI x.1 x.2 y.1 y.2 = -1 := by simp [cmpI, h1, h2, h3]
        rw [this]
        simp [h1, h3]
      · have : cmpI x.1 x.2 y.1 y.2 = 1 := by simp [cmpI, h1, h2, h3]
        rw [this]
        simp [h1, h3]
  · by_cases h3 : x.1 < y.1
    · have : cmpI x.1 x.2 y.1 y.2 = -1 := by simp [cmpI, h1, h3]
      rw [this]
      simp [h1, h3]
    · have : cmpI x.1 x.2 y.1 y.2 = 1 := by simp [cmpI, h1, h3]
      rw [this]
      simp [h1, h3]

theorem swoK : SWO (ltOf fun x y : Ky => cmpI x.1 x.2 y.1 y.2) := by
  rw [ltOf_key]
  refine ⟨ltK_irrefl, fun x y z h1 h2 => ltK_trans h1 h2, fun x y z h1 h2 => ?_⟩
  cases h : ltK x z with
  | false => rfl
  | true =>
    cases h3 : ltK y x with
    | true => rw [ltK_trans h3 h] at h2; exact h2
    | false =>
      have := ltK_total h1 h3
      subst this
      rw [h] at h2
      exact h2

set_option maxRecDepth 100000 in
set_option maxHeartbeats 1000000 in
theorem cmp_lays (x y : Ky) (W : World) : Calls Tryz.prog 168 #[.agg #[.int .u64 x.1, .int .u64 x.2], .agg #[.int .u64 y.1, .int .u64 y.2]] W fun e w' => e = .returned (.int .i64 (cmpI x.1 x.2 y.1 y.2)) ∧ ∃ q os', w' = grow (W.drewN q) os' := by
  obtain ⟨a, b⟩ := x
  obtain ⟨c, d⟩ := y
  simp only
  by_cases e1 : a = c
  · subst e1
    by_cases e2 : b = d
    · subst e2
      have hv : cmpI a b a b = 0 := by simp [cmpI]
      rw [hv]
      clear hv
      go_enter Tryz.func168, Tryz.ntmps168
      go_wp2
      go_ret
      exact ⟨rfl, 0, _, by rw [alloc_eq_grow, alloc_eq_grow, grow_grow]; rfl⟩
    · have q : ((b : Int) == (d : Int)) = false := by simp; omega
      by_cases e3 : b < d
      · have hv : cmpI a b a d = -1 := by simp [cmpI, e2, e3]
        rw [hv]
        clear hv
        go_enter Tryz.func168, Tryz.ntmps168
        go_wp2
        go_ret
        exact ⟨rfl, 0, _, by rw [alloc_eq_grow, alloc_eq_grow, grow_grow]; rfl⟩
      · have hv : cmpI a b a d = 1 := by simp [cmpI, e2, e3]
        rw [hv]
        clear hv
        go_enter Tryz.func168, Tryz.ntmps168
        go_wp2
        go_ret
        exact ⟨rfl, 0, _, by rw [alloc_eq_grow, alloc_eq_grow, grow_grow]; rfl⟩
  · have q : ((a : Int) == (c : Int)) = false := by simp; omega
    by_cases e3 : a < c
    · have hv : cmpI a b c d = -1 := by simp [cmpI, e1, e3]
      rw [hv]
      clear hv
      go_enter Tryz.func168, Tryz.ntmps168
      go_wp2
      go_ret
      exact ⟨rfl, 0, _, by rw [alloc_eq_grow, alloc_eq_grow, grow_grow]; rfl⟩
    · have hv : cmpI a b c d = 1 := by simp [cmpI, e1, e3]
      rw [hv]
      clear hv
      go_enter Tryz.func168, Tryz.ntmps168
      go_wp2
      go_ret
      exact ⟨rfl, 0, _, by rw [alloc_eq_grow, alloc_eq_grow, grow_grow]; rfl⟩

theorem cmpLays_key (blk off size : Nat) (w : World) : CmpLays Tryz.prog 168 #[] keyC 2 (fun x y : Ky => cmpI x.1 x.2 y.1 y.2) blk off size w :=
  fun _ _ _ _ x y => cmp_lays x y _

theorem keyC_two (x : Ky) : (keyC x).length = 2 := rfl
theorem keyC_ones (x : Ky) : ∀ u ∈ keyC x, u.oneCell' = true := by
  intro u hu
  simp only [keyC, List.mem_cons, List.not_mem_nil, or_false] at hu
  rcases hu with rfl | rfl <;> rfl

/-- Keys, sorted. -/
def sortL (l : List Ky) : List Ky := l.mergeSort fun x y => !ltK y x

/-- The sort at keys, from a row of the call's own. -/
theorem sort_own {base : Nat} (v : Value) (l : List Ky) (w : World) (h : w.ownsRow base 74 2 v l.length (cellsOfRow keyC l)) (hl : l.length ≤ 1000000) :
    Calls Tryz.prog 167 #[v, .func (.func 168) #[] #[]] w fun e w' =>
      e = .returned (.tuple #[]) ∧ w'.ownsRow base 74 2 v l.length (cellsOfRow keyC (sortL l)) ∧ w.grownBy w' v.ownBlock := by
  have eg : ∀ args w, (callFunc 168 args).run Tryz.prog w = .ok (.enter 168 args) w := enters_of Tryz.func168 (by kernel_rfl) rfl
  rcases Go.Joins.ownsRow_forms h with ⟨rfl, h0⟩ | ⟨g, cap, rfl⟩
  · obtain rfl : l = [] := List.eq_nil_of_length_eq_zero h0
    refine (AnyF.slices_SortFunc_none sortK none 0 (.func (.func 168) #[] #[]) w).mono ?_
    rintro e w' ⟨rfl, rfl⟩
    exact ⟨rfl, by simpa [sortL] using h, ⟨rfl, rfl, rfl, Nat.le_refl _, fun _ _ _ => rfl⟩⟩
  · have hH := holdsK_own (f := keyC) (n := 2) keyC_two (by decide) h
    have hg := (h.lt g rfl).2
    have hs := AnyQ.slices_SortFunc_total sortK 2 Tryz.isAgg74 Tryz.sizeOf74 keyC (fun _ => rfl) keyC_ones (fun x y : Ky => cmpI x.1 x.2 y.1 y.2) swoK 168 #[] g 0 cap l.toArray w eg (cmpLays_key g 0 l.toArray.size w) hH hg (by simp; omega)
      (fun x y h1 h2 => by rw [ltOf_key] at h1 h2; exact ltK_total h1 h2)
    rw [ltOf_key] at hs
    refine Calls.mono hs ?_
    rintro e w' ⟨rfl, n, os, rfl⟩
    have hm : (sortL l).length = l.length := by simp [sortL]
    obtain ⟨h1, h2⟩ := own_putRowK (f := keyC) (n := 2) (m := sortL l) (k := n) keyC_two (by decide) h hm os
    rw [hm] at h1
    exact ⟨rfl, h1, h2⟩
end

section
set_option linter.unusedSimpArgs false
set_option linter.unusedVariables false
set_option linter.unusedSectionVars false
open Go.RowKit Go.Lib
open Go.Maps (Keyed)
open Go.ChangeMaps

/-- The map's entries as they lie, beside what they are. -/
structure EntsOf {α β : Type} (K : α → Value) (V : β → Value) (ents : Array MapEntry) (clock : Nat) (es : List (α × β)) : Prop where
  kv : ents.toList.map (fun e => (e.key, e.val)) = es.map (fun p => (K p.1, V p.2))
  born : (ents.toList.map (·.born)).Nodup
  old : ∀ e ∈ ents.toList, e.born < clock
  keys : (es.map (·.1)).Nodup

/-- A range under way: these entries have come; no more than cnt are to come. -/
def RangeIn {α β : Type} (K : α → Value) (V : β → Value) (w : World) (b r : Nat) (es pre : List (α × β)) (cnt : Nat) : Prop :=
  ∃ (ents : Array MapEntry) (clock since : Nat) (seen : Array Nat) (c0 : Nat) (ps : List MapEntry), w.heap[b]? = some (.map ents clock) ∧ EntsOf K V ents clock es ∧ w.heap[r]? = some (.mapIter (some b) since seen c0) ∧ (∀ e ∈ ents.toList, e.born < since) ∧ since ≤ c0 ∧ since ≤ clock ∧
    ps.map (fun e => (e.key, e.val)) = pre.map (fun p => (K p.1, V p.2)) ∧ seen.toList = ps.map (·.born) ∧ (∀ e ∈ ps, e ∈ ents.toList) ∧ (∀ p ∈ pre, p ∈ es) ∧ (pre.map (·.1)).Nodup ∧ (leftOf ents seen).size = cnt ∧ pre.length + cnt ≤ es.length

section
variable {α β : Type} [DecidableEq α] {K : α → Value} {V : β → Value} {P : Program} {k t e : TypeId} {w : World} {b r : Nat} {es pre : List (α × β)} {cnt : Nat}

theorem RangeIn.map_ (h : RangeIn K V w b r es pre cnt) : MapIn K V w b es := by
  obtain ⟨ents, clock, _, _, _, _, hb, hE, _⟩ := h
  exact ⟨ents, clock, hb, hE.kv, hE.born, hE.old, hE.keys⟩
theorem RangeIn.lt (h : RangeIn K V w b r es pre cnt) : r < w.heap.size := by
  obtain ⟨_, _, _, _, _, _, _, _, hr, _⟩ := h
  exact (Array.getElem?_eq_some_iff.1 hr).1
theorem RangeIn.ne (h : RangeIn K V w b r es pre cnt) : r ≠ b := by
  obtain ⟨_, _, _, _, _, _, hb, _, hr, _⟩ := h
  intro e
  rw [e, hb] at hr
  cases hr
theorem RangeIn.left_eq (h : RangeIn K V w b r es pre cnt) : w.rangeLeft b r = cnt := by
  obtain ⟨_, _, _, _, _, _, hb, _, hr, _, _, _, _, _, _, _, _, hc, _⟩ := h
  simp only [World.rangeLeft, hb, hr]
  exact hc
theorem RangeIn.kept {w' : World} (h : RangeIn K V w b r es pre cnt) (h1 : w'.heap[b]? = w.heap[b]?) (h2 : w'.heap[r]? = w.heap[r]?) : RangeIn K V w' b r es pre cnt := by
  obtain ⟨ents, clock, since, seen, c0, ps, hb, hE, hr, rest⟩ := h
  exact ⟨ents, clock, since, seen, c0, ps, h1.trans hb, hE, h2.trans hr, rest⟩

/-- 'range m'. -/
theorem MapIn.range (h : MapIn K V w b es) (ht : P.underlying t = some (.map k e)) :
    ∃ w', (Instr.range t (.map (some b))).run P w = .ok (.pointer (some ⟨w.heap.size, 0, none⟩)) w' ∧ RangeIn K V w' b w.heap.size es [] es.length ∧ w.grownBy w' none ∧ w'.heap.size = w.heap.size + 1 := by
  have hlt := h.lt
  obtain ⟨ents, clock, hb, h1, h2, h3, h4⟩ := h
  have hs : ents.size = es.length := by simpa using congrArg List.length h1
  exact ⟨_, run_range_map w t k e b ents clock ht hb, ⟨ents, clock, clock, #[], clock, [], ((MapKept.heap_alloc w _).2 b hlt).trans hb, ⟨h1, h2, h3, h4⟩, (MapKept.heap_alloc w _).1, h3, Nat.le_refl _, Nat.le_refl _, rfl, rfl, fun _ h => by simp at h, fun _ h => by simp at h, List.nodup_nil, by rw [← hs]; simp [leftOf], by simp⟩, World.grownBy_alloc w _ none, by simp⟩

/-- The step. -/
theorem RangeIn.next (h : RangeIn K V w b r es pre cnt) (inj : ∀ x y, K x = K y → x = y) (ty : TypeId) :
    (cnt = 0 ∧ (pre.map (·.1)).Perm (es.map (·.1)) ∧ (Instr.next (.pointer (some ⟨r, 0, none⟩)) false ty).run P w = .ok (.tuple #[.bool false]) w) ∨
    ∃ p w' cnt', p ∈ es ∧ p.1 ∉ pre.map (·.1) ∧ (Instr.next (.pointer (some ⟨r, 0, none⟩)) false ty).run P w = .ok (.tuple #[.bool true, K p.1, V p.2]) w' ∧
      RangeIn K V w' b r es (pre ++ [p]) cnt' ∧ cnt' < cnt ∧ w.grownBy w' (some r) ∧ w'.heap.size = w.heap.size ∧ (Instr.entry (.pointer (some ⟨r, 0, none⟩))).run P w' = .ok (.tuple #[K p.1, V p.2]) w' := by
  have hne := h.ne
  obtain ⟨ents, clock, since, seen, c0, ps, hb, hE, hr, hold, hsc, hsk, hps, hseen, hsub, hpre, hnd, rfl, hcnt⟩ := h
  rcases run_next_at (P := P) w ty r b since c0 seen ents clock hr hb hold hsc with ⟨h0, hrun⟩ | ⟨e, he, w1, hal, hrun⟩
  · refine Or.inl ⟨h0, ?_, hrun⟩
    refine (List.perm_ext_iff_of_nodup hnd hE.keys).2 (fun x => ⟨fun hx => ?_, fun hx => ?_⟩)
    · obtain ⟨p, hp, rfl⟩ := List.mem_map.1 hx
      exact List.mem_map.2 ⟨p, hpre p hp, rfl⟩
    · obtain ⟨p, hp, rfl⟩ := List.mem_map.1 hx
      obtain ⟨j, hj⟩ := List.getElem?_of_mem hp
      have := congrArg (·[j]?) hE.kv
      simp only [List.getElem?_map, hj, Option.map_some] at this
      cases hej : ents.toList[j]? with
      | none => rw [hej] at this; cases this
      | some e0 =>
        rw [hej] at this
        simp only [Option.map_some, Option.some.injEq, Prod.mk.injEq] at this
        have hs := all_seen ents seen h0 e0 (List.mem_of_getElem? hej)
        have hs' : e0.born ∈ ps.map (·.born) := by rw [← hseen]; simpa using hs
        obtain ⟨e1, he1, hborn⟩ := List.mem_map.1 hs'
        obtain rfl := born_inj hE.born (hsub e1 he1) (List.mem_of_getElem? hej) hborn
        obtain ⟨q, hq, hk, hv⟩ := ents_mem hps he1
        exact List.mem_map.2 ⟨q, hq, inj _ _ (hk.symm.trans this.1)⟩
  · obtain ⟨hem, hes⟩ := mem_left he
    obtain ⟨j, hj⟩ := List.getElem?_of_mem hem
    obtain ⟨p, hp, hk, hv⟩ := ents_at hE.kv hj
    have hpm := List.mem_of_getElem? hp
    have hnew : p.1 ∉ pre.map (·.1) := by
      intro hx
      obtain ⟨q, hq, hqp⟩ := List.mem_map.1 hx
      obtain ⟨i, hi⟩ := List.getElem?_of_mem hq
      have := congrArg (·[i]?) hps
      simp only [List.getElem?_map, hi, Option.map_some] at this
      cases hei : ps[i]? with
      | none => rw [hei] at this; cases this
      | some e0 =>
        rw [hei] at this
        simp only [Option.map_some, Option.some.injEq, Prod.mk.injEq] at this
        have he0 := List.mem_of_getElem? hei
        obtain ⟨m, hm⟩ := List.getElem?_of_mem (hsub e0 he0)
        obtain ⟨q', hq', hk', hv'⟩ := ents_at hE.kv hm
        have h1 : q'.1 = p.1 := (inj _ _ (hk'.symm.trans this.1)).trans hqp
        have hm1 : (es.map (·.1))[m]? = some p.1 := by simp [hq', h1]
        have hj1 : (es.map (·.1))[j]? = some p.1 := by simp [hp]
        obtain rfl := nodup_inj hE.keys hm1 hj1
        rw [hj] at hm
        injection hm with hm
        subst hm
        have : e.born ∈ seen.toList := by rw [hseen]; exact List.mem_map.2 ⟨e, he0, rfl⟩
        have : seen.contains e.born = true := by simpa using this
        rw [this] at hes
        cases hes
    have hr1 : w1.heap[r]? = some (.mapIter (some b) since seen c0) := by rcases hal with rfl | rfl <;> exact hr
    have hb1 : w1.heap[b]? = some (.map ents clock) := by rcases hal with rfl | rfl <;> exact hb
    have hset := Go.MapKept.heap_set (o' := .mapIter (some b) since (seen.push e.born) clock) hr1
    have hb' : (setBlock w1 r (.mapIter (some b) since (seen.push e.born) clock)).heap[b]? = some (.map ents clock) := (hset.2 b (fun e1 => hne e1.symm)).trans hb1
    have hsh := left_shrinks ents seen e he
    refine Or.inr ⟨p, _, _, hpm, hnew, by rw [← hk, ← hv]; exact hrun,
      ⟨ents, clock, since, seen.push e.born, clock, ps ++ [e], hb', hE, hset.1, hold, hsk, hsk, by rw [List.map_append, List.map_append, hps]; simp [hk, hv], by rw [Array.toList_push, hseen]; simp, fun x hx => ?_, fun q hq => ?_, ?_, rfl, ?_⟩, hsh, ?_, ?_, ?_⟩
    · rcases List.mem_append.1 hx with h | h
      · exact hsub x h
      · rw [List.mem_singleton.1 h]; exact hem
    · rcases List.mem_append.1 hq with h | h
      · exact hpre q h
      · rw [List.mem_singleton.1 h]; exact hpm
    · rw [List.map_append, List.nodup_append]
      refine ⟨hnd, by simp, fun a ha c hc => ?_⟩
      simp only [List.map_cons, List.map_nil, List.mem_singleton] at hc
      subst hc
      exact fun e1 => hnew (e1 ▸ ha)
    · rw [List.length_append, List.length_singleton]; omega
    · rcases hal with rfl | rfl <;> exact ⟨rfl, rfl, rfl, by simp [setBlock], fun i _ hi => hset.2 i (fun e1 => hi (by rw [e1]))⟩
    · rcases hal with rfl | rfl <;> simp [setBlock]
    · rw [← hk, ← hv]
      exact run_entry_at _ r b since seen ents clock e hset.1 hb' hem hE.born
end
end

section
set_option linter.unusedSimpArgs false
set_option linter.unusedVariables false
open Go.RowKit Go.Lib Go.Shelf
attribute [local go_sem] Oper.semAt_some

section
variable {F : Fence} {nF : Nat} {P : Program} {ops : Array Oper} {rest : List Oper} {o : Oper} {a : Act} {w : World} {Q : Exit → Act → World → Prop}
variable {α β : Type} [DecidableEq α] {K : α → Value} {V : β → Value} {b r : Nat} {es pre : List (α × β)} {cnt : Nat}

end

set_option maxRecDepth 100000 in
set_option maxHeartbeats 2000000 in
theorem sorted_in (n : Nat) (hn : 4 ≤ n) (gf : Nat) (lb : Array Value) (eg : ∀ args w, (callFunc gf args).run Tryz.prog w = .ok (.enter gf args) w)
    (S Sp : List Ky → Prop) (N : Nat) (hN : N ≤ 1000000) (hS : ∀ ss, S ss → ss.length ≤ N) (w : World) (hseq : SeqStopsK Fence.wide (n - 1 - 1 - 1) Tryz.prog gf lb encA (Kp w.heap.size) S Sp N w) :
    CallsIn Fence.wide n Tryz.prog 208 #[.func (.func gf) #[] lb, .func (.func 168) #[] #[]] w fun e w' => ∃ (v : Value) (ss : List Ky), e = .returned v ∧ S ss ∧ w'.ownsRow w.heap.size 74 2 v ss.length (cellsOfRow keyC (sortL ss)) ∧ Below w.heap.size w w' := by
  have h1 : 1 ≤ n := by omega
  refine callsIn_of_wp Tryz.func208 rfl trivial ?_ rfl
  simp only [Tryz.ntmps208, List.size_toArray, List.length_cons, List.length_nil, Nat.reduceAdd, Nat.reduceSub, Array.replicate_succ, Array.replicate_zero, List.push_toArray, List.append_toArray, List.nil_append, List.cons_append]
  gi_wp2_with (first
    | (refine ⟨trivial, ?_⟩; gi_at_call 257; refine (collect_in (n - 1) (by omega) gf lb eg S Sp N hN _ hseq).mono ?_; rintro e w1 ⟨v, ss, rfl, hS1, hrow, hb⟩; obtain ⟨A, c, rfl⟩ := own_form hrow; have HR := Lib.hid hrow; clear hrow)
    | (refine ⟨trivial, ?_⟩; gi_at_call 167; refine CallsIn.mono (callsIn_wide.2 (sort_own _ _ _ HR.out (by have := hS _ hS1; omega))) ?_; rintro e w2 ⟨rfl, hrow2, hg2⟩; have HR2 := Lib.hid hrow2; clear hrow2))
  go_ret
  exact ⟨_, ss, rfl, hS1, HR2.out, hb.trans (grown_below hg2 hb.size (fun k hk => (HR.out.lt k hk).1))⟩

theorem sortL_ris {ss l : List Ky} (hp : ss.Perm l) (hn : l.Nodup) : sortL ss = risL l := by
  have hperm : (sortL ss).Perm ss := List.mergeSort_perm _ _
  refine pair_unique ?_ (risL_pair l) (fun y => by rw [mem_risL, hperm.mem_iff, hp.mem_iff])
  have h1 : (sortL ss).Pairwise (fun a b => (!ltK b a) = true) := List.pairwise_mergeSort (le := fun x y => !ltK y x) (fun a b c h1 h2 => by
    simp only [Bool.not_eq_true'] at *
    cases h : ltK c a with
    | false => rfl
    | true =>
      cases h3 : ltK a b with
      | true => rw [ltK_trans h h3] at h2; cases h2
      | false => have := ltK_total h1 h3; subst this; rw [h] at h2; cases h2) (fun a b => by
    cases h : ltK b a with
    | false => rfl
    | true => simp [ltK_asymm h]) ss
  have h2 : (sortL ss).Nodup := (hperm.trans hp).nodup_iff.2 hn
  refine (List.Pairwise.and h1 h2).imp ?_
  rintro a b ⟨h3, h4⟩
  cases h : ltK a b with
  | true => rfl
  | false => exact absurd (ltK_total h (by simpa using h3)) h4

theorem kys_nodup {l : List KO} (h : l.Nodup) : (kys l).Nodup := by
  unfold kys
  exact List.Pairwise.map _ (fun a b hab e => hab (Subtype.ext e)) h
end

section
set_option linter.unusedSimpArgs false
set_option linter.unusedVariables false
open Go.RowKit Go.Lib Go.Shelf
attribute [local go_sem] Oper.semAt_some

def kyN (pre : List (KO × NE)) : List Ky := pre.map fun p => p.1.1

theorem risL_length {l : List Ky} (hn : l.Nodup) : (risL l).length = l.length := by
  have h := sortL_ris (List.Perm.refl l) hn
  rw [← h]
  simp [sortL]
end

end Go.Proofs.YtmniiodpbebnmaaGreat
