/- A map in memory as a list of its entries: looking up, writing, striking, counting, ranging; workq's Queue in memory; A world gets a name; workq's Add, walked; The reference's Has, Less, More. -/
import Derived.Test.YtmniiodpbebnmaaGreatC02
import Derived.Maps.OwnSet
import Derived.Maps.RangeRun
import Derived.Test.YtmniiodpbebnmaaGreatC03
import Derived.DeepKeys5
import Derived.ChangeMaps5
import Derived.Test.YtmniiodpbebnmaaGreatC01
namespace Go.Proofs.YtmniiodpbebnmaaGreat

section
set_option linter.unusedSimpArgs false
set_option linter.unusedVariables false
open Go.RowKit Go.Lib
open Go.Maps (Keyed)
open Go.ChangeMaps (setBlock modify_eq_set map_eraseIdx)
set_option linter.unusedSectionVars false

theorem nodup_inj {α : Type} : ∀ {l : List α}, l.Nodup → ∀ {i j : Nat} {x : α}, l[i]? = some x → l[j]? = some x → i = j
  | [], _, i, j, x, h, _ => by simp at h
  | a :: l, hn, 0, 0, x, _, _ => rfl
  | a :: l, hn, 0, j + 1, x, h, k => by
    rw [List.nodup_cons] at hn
    simp at h k
    exact absurd (h ▸ List.mem_of_getElem? k) hn.1
  | a :: l, hn, i + 1, 0, x, h, k => by
    rw [List.nodup_cons] at hn
    simp at h k
    exact absurd (k ▸ List.mem_of_getElem? h) hn.1
  | a :: l, hn, i + 1, j + 1, x, h, k => by
    rw [List.nodup_cons] at hn
    simp at h k
    rw [nodup_inj hn.2 h k]

/-- Block b is a map that holds these entries, no key twice. -/
def MapIn {α β : Type} (K : α → Value) (V : β → Value) (w : World) (b : Nat) (es : List (α × β)) : Prop :=
  ∃ ents clock, w.heap[b]? = some (.map ents clock) ∧ ents.toList.map (fun e => (e.key, e.val)) = es.map (fun p => (K p.1, V p.2)) ∧ (ents.toList.map (·.born)).Nodup ∧ (∀ e ∈ ents.toList, e.born < clock) ∧ (es.map (·.1)).Nodup

section
variable {α β : Type} [DecidableEq α]
def findM (es : List (α × β)) (x : α) : Option β := (es.find? (fun p => p.1 = x)).map (·.2)
def hasM (es : List (α × β)) (x : α) : Bool := es.any (fun p => p.1 = x)
def putM (es : List (α × β)) (x : α) (v : β) : List (α × β) := if hasM es x then es.map (fun p => if p.1 = x then (x, v) else p) else es ++ [(x, v)]
def delM (es : List (α × β)) (x : α) : List (α × β) := es.filter (fun p => ¬ p.1 = x)

theorem keys_putM (es : List (α × β)) (x : α) (v : β) : (putM es x v).map (·.1) = if hasM es x then es.map (·.1) else es.map (·.1) ++ [x] := by
  unfold putM
  split
  · rw [List.map_map]
    refine List.map_congr_left (fun p _ => ?_)
    simp only [Function.comp]
    split
    · rename_i h; exact h.symm
    · rfl
  · simp
theorem hasM_iff (es : List (α × β)) (x : α) : hasM es x = true ↔ x ∈ es.map (·.1) := by
  simp [hasM]
theorem nodup_putM {es : List (α × β)} (h : (es.map (·.1)).Nodup) (x : α) (v : β) : ((putM es x v).map (·.1)).Nodup := by
  rw [keys_putM]
  split
  · exact h
  · rename_i hn
    have : x ∉ es.map (·.1) := fun hx => hn ((hasM_iff es x).2 hx)
    rw [List.nodup_append]
    refine ⟨h, by simp, fun a ha b hb => ?_⟩
    rw [List.mem_singleton.1 hb]
    exact fun e => this (e ▸ ha)
theorem nodup_delM {es : List (α × β)} (h : (es.map (·.1)).Nodup) (x : α) : ((delM es x).map (·.1)).Nodup :=
  h.sublist (List.Sublist.map _ List.filter_sublist)
theorem findM_none {es : List (α × β)} {x : α} (h : hasM es x = false) : findM es x = none := by
  simp only [findM, Option.map_eq_none_iff, List.find?_eq_none]
  intro p hp
  simp only [hasM, List.any_eq_false] at h
  exact h p hp
theorem findM_some {es : List (α × β)} {x : α} (h : hasM es x = true) : ∃ v, findM es x = some v ∧ (x, v) ∈ es := by
  simp only [hasM, List.any_eq_true, decide_eq_true_eq] at h
  obtain ⟨p, hp, rfl⟩ := h
  cases hf : es.find? (fun q => q.1 = p.1) with
  | none =>
    rw [List.find?_eq_none] at hf
    exact absurd (decide_eq_true rfl) (hf p hp)
  | some q =>
    have h1 := List.find?_some hf
    have h2 := List.mem_of_find?_eq_some hf
    simp at h1
    exact ⟨q.2, by simp [findM, hf], by rw [← h1]; exact h2⟩
end

section
variable {α β : Type} [DecidableEq α] {K : α → Value} {V : β → Value} {P : Program} {k t e : TypeId} {w : World} {b : Nat} {es : List (α × β)}

theorem MapIn.lt (h : MapIn K V w b es) : b < w.heap.size := by
  obtain ⟨ents, clock, hb, _⟩ := h
  exact (Array.getElem?_eq_some_iff.1 hb).1
theorem MapIn.block {w' : World} (h : MapIn K V w b es) (hb : w'.heap[b]? = w.heap[b]?) : MapIn K V w' b es := by
  obtain ⟨ents, clock, h1, h2⟩ := h
  exact ⟨ents, clock, hb.trans h1, h2⟩
theorem MapIn.below {w' : World} (h : MapIn K V w b es) (hb : Below w.heap.size w w') : MapIn K V w' b es := h.block (hb.block b h.lt)
theorem MapIn.made (w : World) : MapIn K V (w.alloc (.map #[] 0)) w.heap.size ([] : List (α × β)) :=
  ⟨#[], 0, (MapKept.heap_alloc w _).1, rfl, List.nodup_nil, fun _ h => by simp at h, List.nodup_nil⟩

/-- What the laws ask of the keys. -/
structure KeysBy (P : Program) (k : TypeId) (K : α → Value) : Prop where
  law : Keyed P k
  key : ∀ x, ∃ l, keyOf P k (K x) = some l
  inj : ∀ x y, K x = K y → x = y

theorem ents_at {ents : List MapEntry} (hm : ents.map (fun e => (e.key, e.val)) = es.map (fun p => (K p.1, V p.2))) {j : Nat} {e0 : MapEntry} (h : ents[j]? = some e0) : ∃ p, es[j]? = some p ∧ e0.key = K p.1 ∧ e0.val = V p.2 := by
  have := congrArg (·[j]?) hm
  simp only [List.getElem?_map, h, Option.map_some] at this
  cases hp : es[j]? with
  | none => rw [hp] at this; cases this
  | some p =>
    rw [hp] at this
    simp only [Option.map_some, Option.some.injEq, Prod.mk.injEq] at this
    exact ⟨p, rfl, this.1, this.2⟩
theorem ents_mem {ents : List MapEntry} (hm : ents.map (fun e => (e.key, e.val)) = es.map (fun p => (K p.1, V p.2))) {e0 : MapEntry} (h : e0 ∈ ents) : ∃ p ∈ es, e0.key = K p.1 ∧ e0.val = V p.2 := by
  obtain ⟨j, hj⟩ := List.getElem?_of_mem h
  obtain ⟨p, h1, h2⟩ := ents_at hm hj
  exact ⟨p, List.mem_of_getElem? h1, h2⟩

/-- Where a key stands among the entries. -/
theorem MapIn.find (B : KeysBy P k K) {ents : Array MapEntry} (hm : ents.toList.map (fun e => (e.key, e.val)) = es.map (fun p => (K p.1, V p.2))) (hn : (es.map (·.1)).Nodup) (w : World) (x : α) :
    ((Instr.findKey k (K x) ents.toList).run P w = .ok none w ∧ hasM es x = false) ∨
    ∃ j e0 v, (Instr.findKey k (K x) ents.toList).run P w = .ok (some (j, V v)) w ∧ ents.toList[j]? = some e0 ∧ e0.key = K x ∧ es[j]? = some (x, v) ∧ findM es x = some v ∧ hasM es x = true := by
  obtain ⟨l, hl⟩ := B.key x
  rcases B.law.find w hl ents.toList (fun e he => by obtain ⟨p, _, h1, _⟩ := ents_mem hm he; rw [h1]; exact B.key p.1) with ⟨h1, h2⟩ | ⟨j, e0, h1, h2, h3⟩
  · refine .inl ⟨h1, ?_⟩
    rw [hasM, List.any_eq_false]
    intro p hp
    simp only [decide_eq_true_eq]
    rintro rfl
    obtain ⟨j, hj⟩ := List.getElem?_of_mem hp
    have := congrArg (·[j]?) hm
    simp only [List.getElem?_map, hj, Option.map_some] at this
    cases he : ents.toList[j]? with
    | none => rw [he] at this; cases this
    | some e0 =>
      rw [he] at this
      simp only [Option.map_some, Option.some.injEq, Prod.mk.injEq] at this
      exact h2 e0 (List.mem_of_getElem? he) this.1
  · obtain ⟨p, hp, hk, hv⟩ := ents_at hm h2
    have hpx : p.1 = x := B.inj _ _ (hk.symm.trans h3)
    obtain ⟨x', v⟩ := p
    simp only at hpx hv
    subst hpx
    have hh : hasM es x' = true := by rw [hasM_iff]; exact List.mem_map.2 ⟨_, List.mem_of_getElem? hp, rfl⟩
    obtain ⟨v', hf, hmem⟩ := findM_some hh
    refine .inr ⟨j, e0, v, by rw [h1, hv], h2, h3, hp, ?_, hh⟩
    rw [hf]
    obtain ⟨i, hi⟩ := List.getElem?_of_mem hmem
    have hi1 : (es.map (·.1))[i]? = some x' := by simp [hi]
    have hj1 : (es.map (·.1))[j]? = some x' := by simp [hp]
    have hij : i = j := nodup_inj hn hi1 hj1
    subst hij
    rw [hp] at hi
    injection hi with hi
    injection hi with _ hi
    rw [hi]

/-- 'm[k]', 'v, ok := m[k]'. -/
theorem MapIn.look (h : MapIn K V w b es) (B : KeysBy P k K) (ht : P.underlying t = some (.map k e)) {z : Value} (hz : (zeroValue e).run P w = .ok z w) (c : Bool) (x : α) :
    (Instr.lookup t (.map (some b)) (K x) c).run P w = .ok (if c then .tuple #[((findM es x).map V).getD z, .bool (hasM es x)] else ((findM es x).map V).getD z) w := by
  obtain ⟨ents, clock, hb, hm, _, _, hn⟩ := h
  obtain ⟨l, hl⟩ := B.key x
  rcases MapIn.find B hm hn w x with ⟨h1, h2⟩ | ⟨j, e0, v, h1, _, _, _, h5, h6⟩
  · simp [Instr.lookup, run_underlying ht, MapKept.run_getObj_map hb, B.law.check w _ hl, h1, hz, findM_none h2, h2, Result.andThen]
  · simp [Instr.lookup, run_underlying ht, MapKept.run_getObj_map hb, B.law.check w _ hl, h1, h5, h6, Result.andThen]
theorem map_set_eq {γ δ : Type} (f : γ → δ) (l : List γ) (j : Nat) (y : γ) : (l.set j y).map f = (l.map f).set j (f y) := by simp

/-- 'm[k] = v'. -/
theorem MapIn.store (h : MapIn K V w b es) (B : KeysBy P k K) (ht : P.underlying t = some (.map k e)) (x : α) (v : β) :
    ∃ o, (Instr.mapUpdate t (.map (some b)) (K x) (V v)).run P w = .ok () (setBlock w b o) ∧ MapIn K V (setBlock w b o) b (putM es x v) := by
  have hlt := h.lt
  obtain ⟨ents, clock, hb, hm, hbn, hcl, hn⟩ := h
  obtain ⟨l, hl⟩ := B.key x
  have hself : ∀ o, (setBlock w b o).heap[b]? = some o := fun o => by simp [setBlock, hlt]
  rcases MapIn.find B hm hn w x with ⟨h1, h2⟩ | ⟨j, e0, v0, h1, h3, h4, h5, _, h6⟩
  · refine ⟨.map (ents.push ⟨K x, V v, clock⟩) (clock + 1), ?_, _, _, hself _, ?_, ?_, ?_, nodup_putM hn x v⟩
    · simp [Instr.mapUpdate, run_underlying ht, MapKept.run_getObj_map hb, B.law.check w false hl, h1, MapKept.run_setObj_map _ hb, Result.andThen, setBlock]
    · rw [putM, if_neg (by rw [h2]; simp), Array.toList_push, List.map_append, hm, List.map_append]
      rfl
    · rw [Array.toList_push, List.map_append, List.nodup_append]
      refine ⟨hbn, by simp, fun a ha c hc => ?_⟩
      simp only [List.map_cons, List.map_nil, List.mem_singleton] at hc
      obtain ⟨e1, he1, rfl⟩ := List.mem_map.1 ha
      have := hcl e1 he1
      omega
    · intro e1 he1
      rw [Array.toList_push, List.mem_append, List.mem_singleton] at he1
      rcases he1 with he1 | rfl
      · have := hcl e1 he1; omega
      · exact Nat.lt_succ_self _
  · have hjl : j < ents.toList.length := (List.getElem?_eq_some_iff.1 h3).1
    have hj : ents[j]? = some e0 := by simpa using h3
    have hlist : (ents.modify j (fun e' => { e' with key := K x, val := V v })).toList = ents.toList.set j { e0 with key := K x, val := V v } := by rw [Array.toList_modify, modify_eq_set _ _ _ _ h3]
    refine ⟨.map (ents.modify j (fun e' => { e' with key := K x, val := V v })) clock, ?_, _, _, hself _, ?_, ?_, ?_, nodup_putM hn x v⟩
    · simp [Instr.mapUpdate, run_underlying ht, MapKept.run_getObj_map hb, B.law.check w false hl, h1, hj, h4, B.law.stays w hl, MapKept.run_setObj_map _ hb, Result.andThen, setBlock]
    · rw [hlist, map_set_eq, hm, putM, if_pos h6]
      apply List.ext_getElem?
      intro i
      simp only [List.getElem?_set, List.getElem?_map, List.length_map]
      by_cases hij : j = i
      · subst hij
        have hjl' := (List.getElem?_eq_some_iff.1 h5).1
        rw [if_pos rfl, if_pos hjl', h5]
        simp
      · rw [if_neg hij]
        cases hi : es[i]? with
        | none => rfl
        | some q =>
          have hne : ¬ q.1 = x := by
            intro hq
            have hi1 : (es.map (·.1))[i]? = some x := by simp [hi, hq]
            have hj1 : (es.map (·.1))[j]? = some x := by simp [h5]
            exact hij (nodup_inj hn hj1 hi1)
          simp [hne]
    · rw [hlist, map_set_eq]
      have : (ents.toList.map (·.born)).set j e0.born = ents.toList.map (·.born) := by
        apply List.ext_getElem?
        intro i
        rw [List.getElem?_set]
        split
        · rename_i h
          subst h
          rw [if_pos (by simpa using hjl), List.getElem?_map, h3]
          rfl
        · rfl
      simp only [this]
      exact hbn
    · intro e1 he1
      rw [hlist] at he1
      rcases List.mem_or_eq_of_mem_set he1 with he1 | rfl
      · exact hcl e1 he1
      · exact hcl e0 (List.mem_of_getElem? h3)

theorem filter_erase {es : List (α × β)} (hn : (es.map (·.1)).Nodup) {x : α} {v : β} {j : Nat} (h : es[j]? = some (x, v)) : delM es x = es.eraseIdx j := by
  induction es generalizing j with
  | nil => simp at h
  | cons p es ih =>
    rw [List.map_cons, List.nodup_cons] at hn
    cases j with
    | zero =>
      simp at h
      subst h
      rw [delM, List.filter_cons_of_neg (by simp), List.eraseIdx_zero, List.tail_cons]
      refine List.filter_eq_self.2 (fun q hq => ?_)
      simp only [decide_eq_true_eq]
      intro e1
      exact hn.1 (List.mem_map.2 ⟨q, hq, e1⟩)
    | succ j =>
      simp at h
      have hpx : ¬ p.1 = x := fun e1 => hn.1 (List.mem_map.2 ⟨_, List.mem_of_getElem? h, e1.symm⟩)
      rw [delM, List.filter_cons_of_pos (by simpa using hpx), List.eraseIdx_cons_succ]
      exact congrArg (p :: ·) (ih hn.2 h)

/-- 'delete(m, k)'. -/
theorem MapIn.drop (h : MapIn K V w b es) (B : KeysBy P k K) (ht : P.underlying t = some (.map k e)) (x : α) (ty : TypeId) :
    ∃ o, (Builtin.delete_ #[t, k] ty #[.map (some b), K x]).run P w = .ok (.tuple #[]) (setBlock w b o) ∧ MapIn K V (setBlock w b o) b (delM es x) := by
  have hlt := h.lt
  obtain ⟨ents, clock, hb, hm, hbn, hcl, hn⟩ := h
  obtain ⟨l, hl⟩ := B.key x
  have hself : ∀ o, (setBlock w b o).heap[b]? = some o := fun o => by simp [setBlock, hlt]
  rcases MapIn.find B hm hn w x with ⟨h1, h2⟩ | ⟨j, e0, v0, h1, h3, h4, h5, _, h6⟩
  · refine ⟨.map ents clock, ?_, _, _, hself _, ?_, hbn, hcl, nodup_delM hn x⟩
    · simp [Builtin.delete_, run_underlying ht, MapKept.run_getObj_map hb, B.law.check w _ hl, h1, MapKept.run_setObj_map _ hb, Result.andThen, setBlock]
    · rw [hm]
      have : delM es x = es := List.filter_eq_self.2 (fun q hq => by
        simp only [hasM, List.any_eq_false, decide_eq_true_eq] at h2
        simpa using h2 q hq)
      rw [this]
  · have hjl : j < ents.toList.length := (List.getElem?_eq_some_iff.1 h3).1
    have hjs : j < ents.size := by simpa using hjl
    have hsub : (ents.eraseIdxIfInBounds j).toList = ents.toList.eraseIdx j := by
      unfold Array.eraseIdxIfInBounds
      rw [dif_pos hjs]
      simp
    refine ⟨.map (ents.eraseIdxIfInBounds j) clock, ?_, _, _, hself _, ?_, ?_, ?_, nodup_delM hn x⟩
    · simp [Builtin.delete_, run_underlying ht, MapKept.run_getObj_map hb, B.law.check w _ hl, h1, MapKept.run_setObj_map _ hb, Result.andThen, setBlock]
    · rw [hsub, map_eraseIdx, hm, filter_erase hn h5, map_eraseIdx]
    · rw [hsub]
      exact hbn.sublist ((List.eraseIdx_sublist _ _).map _)
    · intro e1 he1
      rw [hsub] at he1
      exact hcl e1 ((List.eraseIdx_sublist _ _).subset he1)

/-- 'len(m)'. -/
theorem MapIn.len (h : MapIn K V w b es) (ht : P.underlying t = some (.map k e)) (ty : TypeId) : (Builtin.len_ #[t] ty #[.map (some b)]).run P w = .ok (.int .i64 es.length) w := by
  obtain ⟨ents, clock, hb, hm, _⟩ := h
  have hs : ents.size = es.length := by simpa using congrArg List.length hm
  simp [Builtin.len_, run_underlying ht, MapKept.run_getObj_map hb, goInt, hs, Result.andThen]
end
end

section
set_option linter.unusedSimpArgs false
set_option linter.unusedVariables false
open Go.RowKit Go.Lib
open Go.ChangeMaps (setBlock)
open Go.Maps (Keyed)

/-- A key that a word holds. -/
abbrev KO := { p : Ky // p.ok }
def koV (x : KO) : Value := .agg #[.int .u64 x.1.1, .int .u64 x.1.2]
def one1 (_ : Unit) : Value := .int .i64 1

theorem laidOutQ : laidOutB Tryz.prog = true := by kernel_rfl
theorem rowKey : (74 : TypeId) < Tryz.prog.types.size := of_decide_eq_true (by kernel_rfl)
theorem deepKey : Tryz.prog.keyType 74 = true := by kernel_rfl
theorem wideKey : (match Tryz.prog.underlying 74 with | some (.array _ _) | some (.struct _) => true | _ => false) = true := by kernel_rfl
theorem manyTypes : 2 ≤ Tryz.prog.types.size := of_decide_eq_true (by kernel_rfl)
set_option maxRecDepth 100000 in
theorem lawKey : Keyed Tryz.prog 74 := Keyed.of_law (deep_law_laid laidOutQ (m := 9) (by decide) rowKey (by kernel_rfl) wideKey)
theorem keyOf_ko (x : KO) : ∃ l, keyOf Tryz.prog 74 (koV x) = some l := by
  obtain ⟨⟨a, b⟩, h1, h2⟩ := x
  simp only at h1 h2
  have hform : (koV ⟨(a, b), h1, h2⟩).formed Tryz.prog 74 = true := by simp [koV, Value.formed, Tryz.underlying74, cl_key]
  obtain ⟨d, hd⟩ : ∃ d, Tryz.prog.types.size = d + 1 := ⟨_, (Nat.sub_add_cancel (Nat.le_trans (by decide) manyTypes)).symm⟩
  have hlits : Tryz.prog.keyLits (Tryz.prog.types.size + 1) 74 [.int .u64 a, .int .u64 b] = some [.int .u64 a, .int .u64 b] := by
    have hw1 : (Lit.int .u64 (a : Int)).wf = true := by simp [Lit.wf, IntKind.min, IntKind.max, IntKind.signed, IntKind.bits]; omega
    have hw2 : (Lit.int .u64 (b : Int)).wf = true := by simp [Lit.wf, IntKind.min, IntKind.max, IntKind.signed, IntKind.bits]; omega
    simp [Program.keyLits, hd, Tryz.underlying74, Tryz.underlying72, cl_key, cl_u64, hw1, hw2]
  refine ⟨.string (keyBytes [.int .u64 a, .int .u64 b]), ?_⟩
  unfold keyOf
  simp only [Tryz.underlying74, deepKey, hform]
  show (if _ then (Tryz.prog.keyLits (Tryz.prog.types.size + 1) 74 [.int .u64 a, .int .u64 b]).map _ else none) = _
  rw [hlits]
  rfl
theorem keysBy : KeysBy Tryz.prog 74 koV where
  law := lawKey
  key := keyOf_ko
  inj x y h := by
    simp only [koV, Value.agg.injEq, Array.mk.injEq, List.cons.injEq, Value.int.injEq, and_true, true_and] at h
    exact Subtype.ext (Prod.ext (by omega) (by omega))

/-! ### Sets of keys -/
def setL (l : List KO) : List (KO × Unit) := l.map fun x => (x, ())
def SetIn (w : World) (d : Nat) (l : List KO) : Prop := MapIn koV one1 w d (setL l)
/-- A set in a field: nil, or a map. -/
def SetAt (w : World) (m : Option Nat) (l : List KO) : Prop := match m with
  | none => l = []
  | some d => SetIn w d l
theorem SetIn.lt {w : World} {d : Nat} {l : List KO} (h : SetIn w d l) : d < w.heap.size := MapIn.lt h
theorem SetIn.nodup {w : World} {d : Nat} {l : List KO} (h : SetIn w d l) : l.Nodup := by
  obtain ⟨_, _, _, _, _, _, hn⟩ := h
  simpa [setL, List.map_map, Function.comp_def] using hn
theorem SetAt.nodup {w : World} {m : Option Nat} {l : List KO} (h : SetAt w m l) : l.Nodup := by
  cases m with
  | none => rw [show l = [] from h]; exact List.nodup_nil
  | some d => exact SetIn.nodup h
theorem SetAt.block {w w' : World} {m : Option Nat} {l : List KO} (h : SetAt w m l) (hb : ∀ d, m = some d → w'.heap[d]? = w.heap[d]?) : SetAt w' m l := by
  cases m with
  | none => exact h
  | some d => exact MapIn.block h (hb d rfl)
def bit (b : Bool) : Int := if b then 1 else 0
/-! ### The queue -/
structure QSt where
  front : List KO
  back : List KO
  dirty : List KO
  busy : List KO
  over : Bool
def kys (l : List KO) : List Ky := l.map (·.1)
structure QAt (w : World) (g o : Nat) (st : QSt) (vf vb : Value) (md mb : Option Nat) (B : Nat → Prop) : Prop where
  line : FIn w g o vf vb (kys st.front) (kys st.back)
  cd : w.cell? ⟨g, o + 2, none⟩ = some (.map md)
  cb : w.cell? ⟨g, o + 3, none⟩ = some (.map mb)
  co : w.cell? ⟨g, o + 4, none⟩ = some (.bool st.over)
  fd : w.frozen? ⟨g, o + 2, none⟩ = false
  fb : w.frozen? ⟨g, o + 3, none⟩ = false
  fo : w.frozen? ⟨g, o + 4, none⟩ = false
  dn : SetAt w md st.dirty
  bn : SetAt w mb st.busy
  both : md = none ↔ mb = none
  apart : ∀ d, md = some d → mb ≠ some d
  inf : ∀ r, vf.ownBlock = some r → B r
  inb : ∀ r, vb.ownBlock = some r → B r
  ind : ∀ r, md = some r → B r
  inz : ∀ r, mb = some r → B r
  low : ∀ k, B k → k < w.heap.size
  notg : ¬ B g
  mt : md = none → st.front = [] ∧ st.back = []
theorem QAt.lt {w : World} {g o : Nat} {st : QSt} {vf vb : Value} {md mb : Option Nat} {B : Nat → Prop} (h : QAt w g o st vf vb md mb B) : g < w.heap.size := h.line.lt
/-- The queue stands where its own cells and blocks do. -/
theorem QAt.keep {w w' : World} {g o : Nat} {st : QSt} {vf vb : Value} {md mb : Option Nat} {B : Nat → Prop} (h : QAt w g o st vf vb md mb B)
    (hc : ∀ j, w'.cell? ⟨g, j, none⟩ = w.cell? ⟨g, j, none⟩) (hf : ∀ j, w'.frozen? ⟨g, j, none⟩ = w.frozen? ⟨g, j, none⟩) (hb : ∀ k, B k → w'.heap[k]? = w.heap[k]?) (hs : w.heap.size ≤ w'.heap.size) : QAt w' g o st vf vb md mb B :=
  ⟨h.line.keep hc hf (fun r hr => hb r (hr.elim (h.inf r) (h.inb r))), (hc _).trans h.cd, (hc _).trans h.cb, (hc _).trans h.co, (hf _).trans h.fd, (hf _).trans h.fb, (hf _).trans h.fo,
    h.dn.block (fun d e => hb d (h.ind d e)), h.bn.block (fun d e => hb d (h.inz d e)), h.both, h.apart, h.inf, h.inb, h.ind, h.inz, fun k hk => Nat.lt_of_lt_of_le (h.low k hk) hs, h.notg, h.mt⟩
theorem QAt.below {w w' : World} {g o : Nat} {st : QSt} {vf vb : Value} {md mb : Option Nat} {B : Nat → Prop} (h : QAt w g o st vf vb md mb B) (hb : Below w.heap.size w w') : QAt w' g o st vf vb md mb B :=
  h.keep (fun j => hb.cell (p := ⟨g, j, none⟩) h.lt) (fun j => hb.frozen (p := ⟨g, j, none⟩) h.lt) (fun k hk => hb.block k (h.low k hk)) hb.size

theorem setBlock_other {w : World} {d k : Nat} {o : Obj} (h : k ≠ d) : (setBlock w d o).heap[k]? = w.heap[k]? := by
  simp [setBlock, Array.getElem?_setIfInBounds, Ne.symm h]
theorem setBlock_size {w : World} {d : Nat} {o : Obj} : (setBlock w d o).heap.size = w.heap.size := by simp [setBlock]
theorem OwnK.cells {w : World} {v : Value} {l : List Ky} (h : OwnK w v l) {r : Nat} (hr : v.ownBlock = some r) : ∃ cs e fr, w.heap[r]? = some (.cells cs e fr) := by
  rcases h.2 with ⟨hv, _⟩ | ⟨g, cap, cur, hv, _, hg, _⟩
  · rw [hv] at hr; cases hr
  · rw [hv] at hr
    obtain rfl : g = r := by simpa [Value.ownBlock] using hr
    exact ⟨_, _, _, hg⟩
theorem setCell_heap_map {w : World} {a : Addr} {v : Value} {d : Nat} (h : d ≠ a.block) : (w.setCell a v).heap[d]? = w.heap[d]? := Below.heap_setCell _ _ _ _ h
/-- Two maps are made, and laid into the fields. -/
theorem QAt.made {w : World} {g o d e : Nat} {st : QSt} {vf vb : Value} {B : Nat → Prop} (h : QAt w g o st vf vb none none B) (hd : d = w.heap.size) (he : e = w.heap.size + 1) :
    QAt ((((w.alloc (.map #[] 0)).alloc (.map #[] 0)).setCell ⟨g, o + 2, none⟩ (.map (some d))).setCell ⟨g, o + 3, none⟩ (.map (some e))) g o st vf vb (some d) (some e) (fun k => B k ∨ k = d ∨ k = e) ∧
    Moves w ((((w.alloc (.map #[] 0)).alloc (.map #[] 0)).setCell ⟨g, o + 2, none⟩ (.map (some d))).setCell ⟨g, o + 3, none⟩ (.map (some e))) g o 5 B := by
  have hg := h.lt
  have hb : Below w.heap.size w ((w.alloc (.map #[] 0)).alloc (.map #[] 0)) := balloc (balloc (Below.refl _ _) _) _
  have h0 := h.below hb
  have hcell : ∀ j, j ≠ o + 2 → j ≠ o + 3 → ((((w.alloc (.map #[] 0)).alloc (.map #[] 0)).setCell ⟨g, o + 2, none⟩ (.map (some d))).setCell ⟨g, o + 3, none⟩ (.map (some e))).cell? ⟨g, j, none⟩ = w.cell? ⟨g, j, none⟩ := fun j h2 h3 => by
    rw [World.cell?_setCell_other _ _ _ _ (fun e => by injection e with _ e _; omega), World.cell?_setCell_other _ _ _ _ (fun e => by injection e with _ e _; omega)]
    exact hb.cell (p := ⟨g, j, none⟩) hg
  have hfr : ∀ j, ((((w.alloc (.map #[] 0)).alloc (.map #[] 0)).setCell ⟨g, o + 2, none⟩ (.map (some d))).setCell ⟨g, o + 3, none⟩ (.map (some e))).frozen? ⟨g, j, none⟩ = w.frozen? ⟨g, j, none⟩ := fun j => by
    rw [World.frozen?_setCell, World.frozen?_setCell]
    exact hb.frozen (p := ⟨g, j, none⟩) hg
  have hheap : ∀ k, k ≠ g → ((((w.alloc (.map #[] 0)).alloc (.map #[] 0)).setCell ⟨g, o + 2, none⟩ (.map (some d))).setCell ⟨g, o + 3, none⟩ (.map (some e))).heap[k]? = ((w.alloc (.map #[] 0)).alloc (.map #[] 0)).heap[k]? := fun k hk => by
    rw [setCell_heap_map hk, setCell_heap_map hk]
  have hkeep : ∀ k, k < w.heap.size → k ≠ g → ((((w.alloc (.map #[] 0)).alloc (.map #[] 0)).setCell ⟨g, o + 2, none⟩ (.map (some d))).setCell ⟨g, o + 3, none⟩ (.map (some e))).heap[k]? = w.heap[k]? := fun k hk hk' => (hheap k hk').trans (hb.block k hk)
  have hsz : ((((w.alloc (.map #[] 0)).alloc (.map #[] 0)).setCell ⟨g, o + 2, none⟩ (.map (some d))).setCell ⟨g, o + 3, none⟩ (.map (some e))).heap.size = w.heap.size + 2 := by simp [World.setCell]
  have hdirty : st.dirty = [] := h.dn
  have hbusy : st.busy = [] := h.bn
  have hlo : ∀ r, vf.ownBlock = some r ∨ vb.ownBlock = some r → r < w.heap.size ∧ r ≠ g := fun r hr => ⟨hr.elim h.line.2.2.2.2.1.lt h.line.2.2.2.2.2.1.lt, fun e => by
    subst e
    exact hr.elim h.line.2.2.2.2.2.2.1 h.line.2.2.2.2.2.2.2.1⟩
  have hline : FIn ((((w.alloc (.map #[] 0)).alloc (.map #[] 0)).setCell ⟨g, o + 2, none⟩ (.map (some d))).setCell ⟨g, o + 3, none⟩ (.map (some e))) g o vf vb (kys st.front) (kys st.back) := by
    obtain ⟨h1, h2, h3, h4, h5, h6, h7⟩ := h.line
    exact ⟨(hcell _ (by omega) (by omega)).trans h1, (hcell _ (by omega) (by omega)).trans h2, (hfr _).trans h3, (hfr _).trans h4,
      h5.block fun r hr => hkeep r (hlo r (.inl hr)).1 (hlo r (.inl hr)).2, h6.block fun r hr => hkeep r (hlo r (.inr hr)).1 (hlo r (.inr hr)).2, h7⟩
  have hset : ∀ k, (k = d ∨ k = e) → SetIn ((((w.alloc (.map #[] 0)).alloc (.map #[] 0)).setCell ⟨g, o + 2, none⟩ (.map (some d))).setCell ⟨g, o + 3, none⟩ (.map (some e))) k [] := fun k hk => by
    have hkg : k ≠ g := by omega
    refine MapIn.block (w := (w.alloc (.map #[] 0)).alloc (.map #[] 0)) (es := []) ?_ (hheap k hkg)
    rcases hk with rfl | rfl
    · subst hd
      exact MapIn.below (MapIn.made w) (balloc (Below.refl _ _) _)
    · subst he
      have := MapIn.made (K := koV) (V := one1) (w.alloc (.map #[] 0))
      rwa [World.size_alloc] at this
  refine ⟨⟨hline, ?_, ?_, (hcell _ (by omega) (by omega)).trans h.co, (hfr _).trans h.fd, (hfr _).trans h.fb, (hfr _).trans h.fo, ?_, ?_, ⟨fun e => (by cases e), fun e => (by cases e)⟩, fun k hk e => ?_,
    fun r hr => .inl (h.inf r hr), fun r hr => .inl (h.inb r hr), fun r hr => .inr (.inl (by injection hr with hr; exact hr.symm)), fun r hr => .inr (.inr (by injection hr with hr; exact hr.symm)), fun k hk => ?_, fun hk => ?_, fun e => (by cases e)⟩, ?_⟩
  · rw [World.cell?_setCell_other _ _ _ _ (fun e => by injection e with _ e _; omega)]
    exact World.cell?_setCell_same' _ _ _ (by rw [h0.cd]; rfl)
  · exact World.cell?_setCell_same' _ _ _ (by rw [World.cell?_setCell_other _ _ _ _ (fun e => by injection e with _ e _; omega), h0.cb]; rfl)
  · rw [hdirty]; exact hset d (.inl rfl)
  · rw [hbusy]; exact hset e (.inr rfl)
  · injection hk with hk; injection e with e; omega
  · rw [hsz]
    rcases hk with hk | rfl | rfl
    · have := h.low k hk; omega
    · omega
    · omega
  · rcases hk with hk | hk | hk
    · exact h.notg hk
    · omega
    · omega
  · exact ((Moves.of_below hb hg).set _ (by omega) (by omega)).set _ (by omega) (by omega)

theorem Moves.wide {w w' : World} {g o n m : Nat} {R : Nat → Prop} (h : Moves w w' g o n R) (hm : n ≤ m) : Moves w w' g o m R := ⟨h.os, h.tape, h.output, h.size, h.block, fun j hj => h.cell j (by omega), h.frozen⟩
end

section
set_option linter.unusedSimpArgs false
set_option linter.unusedVariables false
open Go.RowKit Go.Lib

theorem calls_named {P : Program} {f : Nat} {args : Array Value} {w : World} {Q : Ending → World → Prop} (h : ∀ W, W = w → Calls P f args W Q) : Calls P f args w Q := h w rfl
theorem name_world {P : Program} {c : Code} {Q : Exit → Act → World → Prop} {a : Act} {w : World} (h : ∀ W, W = w → c.wp P Q a W) : c.wp P Q a w := h w rfl
theorem box_at {W w1 : World} (hb : Below W.heap.size W w1) {B : Nat} {cs : Array Value} {T : TypeId} (hB : W.heap[B]? = some (.cells cs T (0, 0))) : (∀ j, w1.cell? ⟨B, j, none⟩ = cs[j]?) ∧ (∀ j, w1.frozen? ⟨B, j, none⟩ = false) ∧ B < w1.heap.size ∧ w1.heap[B]? = some (.cells cs T (0, 0)) := by
  obtain ⟨h1, h2, h3⟩ := box_cells hb hB
  exact ⟨h1, h2, h3, (hb.block B (Array.getElem?_eq_some_iff.1 hB).1).trans hB⟩
end

section
set_option linter.unusedSimpArgs false
set_option linter.unusedVariables false
open Go.RowKit Go.Lib
open Go.ChangeMaps (setBlock)
end

section
set_option linter.unusedSimpArgs false
set_option linter.unusedVariables false
open Go.RowKit Go.Lib
end

end Go.Proofs.YtmniiodpbebnmaaGreat
