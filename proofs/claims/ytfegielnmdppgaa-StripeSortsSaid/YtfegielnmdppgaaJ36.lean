/- 'for k := range m' over a map that is a list of its entries. -/
import Derived.Test.YtfegielnmdppgaaJ15
import Derived.Maps.Range
import Derived.RangeFuncSeq
namespace Go.Proofs.Ytfegielnmdppgaa

section
set_option linter.unusedSimpArgs false
set_option linter.unusedVariables false
set_option linter.unusedSectionVars false
open Go.RowKit Go.Lib
open Go.Maps (Keyed)
open Go.ChangeMaps

/-- The map's entries as they lie, beside what they are. -/
structure EntsOf {α β : Type} (K : α → Value) (V : β → Value) (ents : Array MapEntry) (clock : Nat) (es : List (α × β)) : Prop where
  kv : ents.toList.map (fun e => (e.key, e.val)) = es.map (fun p => (K p.1, V p.2))
  born : (ents.toList.map (·.born)).Nodup
  old : ∀ e ∈ ents.toList, e.born < clock
  keys : (es.map (·.1)).Nodup

/-- A range under way: these entries have come; no more than cnt are to come. -/
def RangeIn {α β : Type} (K : α → Value) (V : β → Value) (w : World) (b r : Nat) (es pre : List (α × β)) (cnt : Nat) : Prop :=
  ∃ (ents : Array MapEntry) (clock since : Nat) (seen : Array Nat) (c0 : Nat) (ps : List MapEntry), w.heap[b]? = some (.map ents clock) ∧ EntsOf K V ents clock es ∧ w.heap[r]? = some (.mapIter (some b) since seen c0) ∧ (∀ e ∈ ents.toList, e.born < since) ∧ since ≤ c0 ∧ since ≤ clock ∧
    ps.map (fun e => (e.key, e.val)) = pre.map (fun p => (K p.1, V p.2)) ∧ seen.toList = ps.map (·.born) ∧ (∀ e ∈ ps, e ∈ ents.toList) ∧ (∀ p ∈ pre, p ∈ es) ∧ (pre.map (·.1)).Nodup ∧ (leftOf ents seen).size = cnt ∧ pre.length + cnt ≤ es.length

section
variable {α β : Type} [DecidableEq α] {K : α → Value} {V : β → Value} {P : Program} {k t e : TypeId} {w : World} {b r : Nat} {es pre : List (α × β)} {cnt : Nat}

theorem RangeIn.map_ (h : RangeIn K V w b r es pre cnt) : MapIn K V w b es := by
  obtain ⟨ents, clock, _, _, _, _, hb, hE, _⟩ := h
  exact ⟨ents, clock, hb, hE.kv, hE.born, hE.old, hE.keys⟩
theorem RangeIn.lt (h : RangeIn K V w b r es pre cnt) : r < w.heap.size := by
  obtain ⟨_, _, _, _, _, _, _, _, hr, _⟩ := h
  exact (Array.getElem?_eq_some_iff.1 hr).1
theorem RangeIn.ne (h : RangeIn K V w b r es pre cnt) : r ≠ b := by
  obtain ⟨_, _, _, _, _, _, hb, _, hr, _⟩ := h
  intro e
  rw [e, hb] at hr
  cases hr
theorem RangeIn.left_eq (h : RangeIn K V w b r es pre cnt) : w.rangeLeft b r = cnt := by
  obtain ⟨_, _, _, _, _, _, hb, _, hr, _, _, _, _, _, _, _, _, hc, _⟩ := h
  simp only [World.rangeLeft, hb, hr]
  exact hc
theorem RangeIn.iter_walk (h : RangeIn K V w b r es pre cnt) : ∃ o : Obj, w.heap[r]? = some o ∧ o.isWalk = true := by
  obtain ⟨_, _, _, _, _, _, hb, _, hr, _⟩ := h
  exact ⟨_, hr, rfl⟩
theorem RangeIn.of_walks {w' : World} (h : RangeIn K V w b r es pre cnt) (hk : KeepsWalks w w') : RangeIn K V w' b r es pre cnt := by
  obtain ⟨ents, clock, since, seen, c0, ps, hb, hE, hr, rest⟩ := h
  exact ⟨ents, clock, since, seen, c0, ps, hk.same b _ hb rfl, hE, hk.same r _ hr rfl, rest⟩
theorem RangeIn.kept {w' : World} (h : RangeIn K V w b r es pre cnt) (h1 : w'.heap[b]? = w.heap[b]?) (h2 : w'.heap[r]? = w.heap[r]?) : RangeIn K V w' b r es pre cnt := by
  obtain ⟨ents, clock, since, seen, c0, ps, hb, hE, hr, rest⟩ := h
  exact ⟨ents, clock, since, seen, c0, ps, h1.trans hb, hE, h2.trans hr, rest⟩

/-- 'range m'. -/
theorem MapIn.range (h : MapIn K V w b es) (ht : P.underlying t = some (.map k e)) :
    ∃ w', (Instr.range t (.map (some b))).run P w = .ok (.pointer (some ⟨w.heap.size, 0, none⟩)) w' ∧ RangeIn K V w' b w.heap.size es [] es.length ∧ w.grownBy w' none ∧ w'.heap.size = w.heap.size + 1 := by
  have hlt := h.lt
  obtain ⟨ents, clock, hb, h1, h2, h3, h4⟩ := h
  have hs : ents.size = es.length := by simpa using congrArg List.length h1
  exact ⟨_, run_range_map w t k e b ents clock ht hb, ⟨ents, clock, clock, #[], clock, [], ((MapKept.heap_alloc w _).2 b hlt).trans hb, ⟨h1, h2, h3, h4⟩, (MapKept.heap_alloc w _).1, h3, Nat.le_refl _, Nat.le_refl _, rfl, rfl, fun _ h => by simp at h, fun _ h => by simp at h, List.nodup_nil, by rw [← hs]; simp [leftOf], by simp⟩, World.grownBy_alloc w _ none, by simp⟩

/-- The step. -/
theorem RangeIn.next (h : RangeIn K V w b r es pre cnt) (inj : ∀ x y, K x = K y → x = y) (ty : TypeId) :
    (cnt = 0 ∧ (pre.map (·.1)).Perm (es.map (·.1)) ∧ (Instr.next (.pointer (some ⟨r, 0, none⟩)) false ty).run P w = .ok (.tuple #[.bool false]) w) ∨
    ∃ p w' cnt', p ∈ es ∧ p.1 ∉ pre.map (·.1) ∧ (Instr.next (.pointer (some ⟨r, 0, none⟩)) false ty).run P w = .ok (.tuple #[.bool true, K p.1, V p.2]) w' ∧
      RangeIn K V w' b r es (pre ++ [p]) cnt' ∧ cnt' < cnt ∧ w.grownBy w' (some r) ∧ w'.heap.size = w.heap.size ∧ (Instr.entry (.pointer (some ⟨r, 0, none⟩))).run P w' = .ok (.tuple #[K p.1, V p.2]) w' := by
  have hne := h.ne
  obtain ⟨ents, clock, since, seen, c0, ps, hb, hE, hr, hold, hsc, hsk, hps, hseen, hsub, hpre, hnd, rfl, hcnt⟩ := h
  rcases run_next_at (P := P) w ty r b since c0 seen ents clock hr hb hold hsc with ⟨h0, hrun⟩ | ⟨e, he, w1, hal, hrun⟩
  · refine Or.inl ⟨h0, ?_, hrun⟩
    refine (List.perm_ext_iff_of_nodup hnd hE.keys).2 (fun x => ⟨fun hx => ?_, fun hx => ?_⟩)
    · obtain ⟨p, hp, rfl⟩ := List.mem_map.1 hx
      exact List.mem_map.2 ⟨p, hpre p hp, rfl⟩
    · obtain ⟨p, hp, rfl⟩ := List.mem_map.1 hx
      obtain ⟨j, hj⟩ := List.getElem?_of_mem hp
      have := congrArg (·[j]?) hE.kv
      simp only [List.getElem?_map, hj, Option.map_some] at this
      cases hej : ents.toList[j]? with
      | none => rw [hej] at this; cases this
      | some e0 =>
        rw [hej] at this
        simp only [Option.map_some, Option.some.injEq, Prod.mk.injEq] at this
        have hs := all_seen ents seen h0 e0 (List.mem_of_getElem? hej)
        have hs' : e0.born ∈ ps.map (·.born) := by rw [← hseen]; simpa using hs
        obtain ⟨e1, he1, hborn⟩ := List.mem_map.1 hs'
        obtain rfl := born_inj hE.born (hsub e1 he1) (List.mem_of_getElem? hej) hborn
        obtain ⟨q, hq, hk, hv⟩ := ents_mem hps he1
        exact List.mem_map.2 ⟨q, hq, inj _ _ (hk.symm.trans this.1)⟩
  · obtain ⟨hem, hes⟩ := mem_left he
    obtain ⟨j, hj⟩ := List.getElem?_of_mem hem
    obtain ⟨p, hp, hk, hv⟩ := ents_at hE.kv hj
    have hpm := List.mem_of_getElem? hp
    have hnew : p.1 ∉ pre.map (·.1) := by
      intro hx
      obtain ⟨q, hq, hqp⟩ := List.mem_map.1 hx
      obtain ⟨i, hi⟩ := List.getElem?_of_mem hq
      have := congrArg (·[i]?) hps
      simp only [List.getElem?_map, hi, Option.map_some] at this
      cases hei : ps[i]? with
      | none => rw [hei] at this; cases this
      | some e0 =>
        rw [hei] at this
        simp only [Option.map_some, Option.some.injEq, Prod.mk.injEq] at this
        have he0 := List.mem_of_getElem? hei
        obtain ⟨m, hm⟩ := List.getElem?_of_mem (hsub e0 he0)
        obtain ⟨q', hq', hk', hv'⟩ := ents_at hE.kv hm
        have h1 : q'.1 = p.1 := (inj _ _ (hk'.symm.trans this.1)).trans hqp
        have hm1 : (es.map (·.1))[m]? = some p.1 := by simp [hq', h1]
        have hj1 : (es.map (·.1))[j]? = some p.1 := by simp [hp]
        obtain rfl := nodup_inj hE.keys hm1 hj1
        rw [hj] at hm
        injection hm with hm
        subst hm
        have : e.born ∈ seen.toList := by rw [hseen]; exact List.mem_map.2 ⟨e, he0, rfl⟩
        have : seen.contains e.born = true := by simpa using this
        rw [this] at hes
        cases hes
    have hr1 : w1.heap[r]? = some (.mapIter (some b) since seen c0) := by rcases hal with rfl | rfl <;> exact hr
    have hb1 : w1.heap[b]? = some (.map ents clock) := by rcases hal with rfl | rfl <;> exact hb
    have hset := Go.MapKept.heap_set (o' := .mapIter (some b) since (seen.push e.born) clock) hr1
    have hb' : (setBlock w1 r (.mapIter (some b) since (seen.push e.born) clock)).heap[b]? = some (.map ents clock) := (hset.2 b (fun e1 => hne e1.symm)).trans hb1
    have hsh := left_shrinks ents seen e he
    refine Or.inr ⟨p, _, _, hpm, hnew, by rw [← hk, ← hv]; exact hrun,
      ⟨ents, clock, since, seen.push e.born, clock, ps ++ [e], hb', hE, hset.1, hold, hsk, hsk, by rw [List.map_append, List.map_append, hps]; simp [hk, hv], by rw [Array.toList_push, hseen]; simp, fun x hx => ?_, fun q hq => ?_, ?_, rfl, ?_⟩, hsh, ?_, ?_, ?_⟩
    · rcases List.mem_append.1 hx with h | h
      · exact hsub x h
      · rw [List.mem_singleton.1 h]; exact hem
    · rcases List.mem_append.1 hq with h | h
      · exact hpre q h
      · rw [List.mem_singleton.1 h]; exact hpm
    · rw [List.map_append, List.nodup_append]
      refine ⟨hnd, by simp, fun a ha c hc => ?_⟩
      simp only [List.map_cons, List.map_nil, List.mem_singleton] at hc
      subst hc
      exact fun e1 => hnew (e1 ▸ ha)
    · rw [List.length_append, List.length_singleton]; omega
    · rcases hal with rfl | rfl <;> exact ⟨rfl, rfl, rfl, by simp [setBlock], fun i _ hi => hset.2 i (fun e1 => hi (by rw [e1]))⟩
    · rcases hal with rfl | rfl <;> simp [setBlock]
    · rw [← hk, ← hv]
      exact run_entry_at _ r b since seen ents clock e hset.1 hb' hem hE.born
end
end

end Go.Proofs.Ytfegielnmdppgaa
