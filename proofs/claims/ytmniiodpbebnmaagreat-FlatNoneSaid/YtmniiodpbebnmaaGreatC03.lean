/- A row of the call's own under the shelf's words for sorting and turning: HoldsK, putRowK; fifo's Queue of keys: what it is in memory; Put, Len, turn, Get; A map in memory as a list of its entries: looking up, writing, striking, counting, ranging. -/
import Derived.Test.YtmniiodpbebnmaaGreatC01
import Derived.Shelf.GgSortFunc.RowK
import Derived.Sort.Grow
import Derived.Test.YtmniiodpbebnmaaGreatC02
import Derived.Deep.AppendLies
import Derived.Deep.RegionLaw
import Derived.BigRegion
import Derived.Maps.OwnSet
import Derived.Maps.RangeRun
namespace Go.Proofs.YtmniiodpbebnmaaGreat

section
set_option linter.unusedSimpArgs false
set_option linter.unusedVariables false
open Go.RowKit Go.Lib Go.Sort

section
variable {α : Type} [Inhabited α] {f : α → List Value} {n : Nat}

theorem flat_row (hf : ∀ x, (f x).length = n) (hn : 0 < n) (l : List α) : flatK f n l.toArray = (cellsOfRow f l).toArray := by
  refine ext_get! (by simp [cellsOfRow_len hf]) fun t ht => ?_
  have ht' : t < l.length * n := by simpa using ht
  rw [get_flatK _ _ _ t (by simpa using ht')]
  have hk : t / n < l.length := by rw [Nat.div_lt_iff_lt_mul hn]; exact ht'
  have hm : t % n < (f l[t / n]).length := by rw [hf]; exact Nat.mod_lt _ hn
  have hlt : t < (cellsOfRow f l).length := by rw [cellsOfRow_len hf]; exact ht'
  have h := cellsOfRow_at hf l (t / n) l[t / n] (List.getElem?_eq_getElem hk) (t % n) _ (List.getElem?_eq_getElem hm)
  rw [show t / n * n + t % n = t by rw [Nat.mul_comm]; exact Nat.div_add_mod t n] at h
  have e1 : (cellsOfRow f l).toArray[t]! = (f l[t / n])[t % n] := by
    rw [getElem!_pos _ t (by simpa using hlt)]
    have := (List.getElem?_eq_some_iff.1 h).2
    simpa using this
  rw [e1]
  have e2 : l.toArray[t / n]! = l[t / n] := by rw [getElem!_pos _ _ (by simpa using hk)]; simp
  rw [e2]
  exact getElem!_pos (f l[t / n]) (t % n) hm

theorem holdsK_own (hf : ∀ x, (f x).length = n) (hn : 0 < n) {w : World} {base g cap : Nat} {e : TypeId} {l : List α} (h : w.ownsRow base e n (.slice (some ⟨g, 0, none⟩) l.length cap) l.length (cellsOfRow f l)) :
    HoldsK f n w g 0 l.toArray := by
  unfold HoldsK
  rw [flat_row hf hn]
  intro j hj
  have hj' : j < (cellsOfRow f l).length := by simpa using hj
  have hjl := hj'
  rw [cellsOfRow_len hf] at hjl
  have hc := h.cellAt j hjl
  rcases h.2 with ⟨hv, _⟩ | ⟨g', cap', cur, hv, _, hg, _⟩
  · cases hv
  · injection hv with e1 e2 e3
    injection e1 with e1
    injection e1 with e1
    subst e1
    refine ⟨?_, Go.Joins.unfrozen_of_block hg (0 + j)⟩
    rw [Nat.zero_add, hc, List.getElem?_eq_getElem hj', getElem!_pos _ j hj]
    simp

theorem take_put (F : List Value) (c : Array Value) (h : F.length ≤ c.size) : (putCells id 0 F.toArray c).toList.take F.length = F := by
  apply List.ext_getElem?
  intro i
  rw [List.getElem?_take]
  by_cases hi : i < F.length
  · rw [if_pos hi, Array.getElem?_toList, putCells, Array.getElem?_mapIdx, Array.getElem?_eq_getElem (by omega), Option.map_some, if_pos ⟨Nat.zero_le _, by simpa using hi⟩, Nat.sub_zero, List.getElem?_eq_getElem hi]
    simp [hi]
  · rw [if_neg hi, List.getElem?_eq_none (by omega)]

theorem putRow_heap {w : World} {g : Nat} {cur : Array Value} {e : TypeId} {fr : Nat × Nat} (F : Array Value) (hb : w.heap[g]? = some (.cells cur e fr)) :
    (putRow id w g 0 F).heap[g]? = some (.cells (putCells id 0 F cur) e fr) := by
  simp only [putRow, mapBlock, Array.getElem?_modify, if_pos]
  rw [hb]
  rfl
theorem putRow_other {w : World} {g k : Nat} (F : Array Value) (h : k ≠ g) : (putRow id w g 0 F).heap[k]? = w.heap[k]? := by
  simp only [putRow, mapBlock, Array.getElem?_modify, if_neg (Ne.symm h)]

/-- Behind a turning: the same slice owns what was laid. -/
theorem own_putRowK (hf : ∀ x, (f x).length = n) (hn : 0 < n) {w : World} {base g cap k : Nat} {e : TypeId} {l m : List α} (h : w.ownsRow base e n (.slice (some ⟨g, 0, none⟩) l.length cap) l.length (cellsOfRow f l)) (hm : m.length = l.length) (os : Array Obj) :
    (grow (putRowK f n (Sort.ahead w k) g 0 m.toArray) os).ownsRow base e n (.slice (some ⟨g, 0, none⟩) m.length cap) m.length (cellsOfRow f m) ∧ w.grownBy (grow (putRowK f n (Sort.ahead w k) g 0 m.toArray) os) (some g) := by
  rcases h.2 with ⟨hv, _⟩ | ⟨g', cap', cur, hv, hbase, hg, h1, h2, h3, h4⟩
  · cases hv
  · injection hv with e1 e2 e3
    injection e1 with e1
    injection e1 with e1
    subst e1 e3
    have hglt : g < w.heap.size := (Array.getElem?_eq_some_iff.1 hg).1
    unfold putRowK
    rw [flat_row hf hn]
    have hsz : (putRow id (Sort.ahead w k) g 0 (cellsOfRow f m).toArray).heap.size = w.heap.size := by simp [putRow, mapBlock, Sort.ahead]
    have hblk : (grow (putRow id (Sort.ahead w k) g 0 (cellsOfRow f m).toArray) os).heap[g]? = some (.cells (putCells id 0 (cellsOfRow f m).toArray cur) e (0, 0)) := by
      rw [heap_grow_old _ _ (by rw [hsz]; exact hglt)]
      exact putRow_heap (w := Sort.ahead w k) _ hg
    have hle : (cellsOfRow f m).length ≤ cur.size := by
      rw [cellsOfRow_len hf, hm, h3]
      exact Nat.mul_le_mul_right _ h1
    refine ⟨⟨cellsOfRow_len hf m, .inr ⟨g, cap, _, rfl, hbase, hblk, by omega, h2, by simp [putCells, h3], ?_⟩⟩, ⟨rfl, rfl, rfl, by simp only [grow, Array.size_append, hsz]; omega, fun j hj hne => ?_⟩⟩
    · have := take_put (cellsOfRow f m) cur hle
      rwa [cellsOfRow_len hf] at this
    · rw [heap_grow_old _ _ (by rw [hsz]; exact hj)]
      exact putRow_other (w := Sort.ahead w k) _ (fun e => hne (by rw [e]))
end
end

section
set_option linter.unusedSimpArgs false
set_option linter.unusedVariables false
open Go.RowKit Go.Lib

/-- What may have turned: block g from o to o + n, the blocks of R, and what is new. -/
structure Moves (w w' : World) (g o n : Nat) (R : Nat → Prop) : Prop where
  os : w'.os = w.os
  tape : w'.tape = w.tape
  output : w'.output = w.output
  size : w.heap.size ≤ w'.heap.size
  block : ∀ k, k < w.heap.size → k ≠ g → ¬ R k → w'.heap[k]? = w.heap[k]?
  cell : ∀ j, (j < o ∨ o + n ≤ j) → w'.cell? ⟨g, j, none⟩ = w.cell? ⟨g, j, none⟩
  frozen : ∀ j, w'.frozen? ⟨g, j, none⟩ = w.frozen? ⟨g, j, none⟩

theorem Moves.refl (w : World) (g o n : Nat) (R : Nat → Prop) : Moves w w g o n R := ⟨rfl, rfl, rfl, Nat.le_refl _, fun _ _ _ _ => rfl, fun _ _ => rfl, fun _ => rfl⟩
theorem Moves.trans {w a b : World} {g o n : Nat} {R R' : Nat → Prop} (h : Moves w a g o n R) (k : Moves a b g o n R') (hR : ∀ r, R' r → R r ∨ w.heap.size ≤ r) : Moves w b g o n R :=
  ⟨k.os.trans h.os, k.tape.trans h.tape, k.output.trans h.output, Nat.le_trans h.size k.size,
    fun i hi hg hr => (k.block i (Nat.lt_of_lt_of_le hi h.size) hg (fun hr' => (hR i hr').elim hr (fun h' => by omega))).trans (h.block i hi hg hr),
    fun j hj => (k.cell j hj).trans (h.cell j hj), fun j => (k.frozen j).trans (h.frozen j)⟩
theorem Moves.of_below {w w' : World} {g o n : Nat} {R : Nat → Prop} (h : Below w.heap.size w w') (hg : g < w.heap.size) : Moves w w' g o n R :=
  ⟨h.os, h.tape, h.output, h.size, fun k hk _ _ => h.block k hk, fun j _ => h.cell (p := ⟨g, j, none⟩) hg, fun j => h.frozen (p := ⟨g, j, none⟩) hg⟩
theorem Moves.setCell {w : World} {g o n i : Nat} {R : Nat → Prop} (v : Value) (hi : o ≤ i) (hi' : i < o + n) : Moves w (w.setCell ⟨g, i, none⟩ v) g o n R :=
  ⟨rfl, rfl, rfl, by simp [World.setCell], fun k _ hk _ => Below.heap_setCell _ _ _ _ hk, fun j hj => World.cell?_setCell_other w _ _ v (fun e => by injection e with _ e _; omega), fun j => World.frozen?_setCell _ _ _ _⟩
theorem Moves.grown {w w' : World} {g o n : Nat} {R : Nat → Prop} {row : Option Nat} (h : w.grownBy w' row) (hr : ∀ k, row = some k → R k) (hg : row ≠ some g) (hlt : g < w.heap.size) : Moves w w' g o n R :=
  ⟨h.os, h.tape, h.output, h.size, fun k hk _ hnr => h.block k hk (fun e => hnr (hr k e.symm)), fun j _ => h.cell_far ⟨g, j, none⟩ hlt (Ne.symm hg), fun j => h.frozen_far ⟨g, j, none⟩ hlt (Ne.symm hg)⟩
theorem Moves.set {w a : World} {g o n : Nat} {R : Nat → Prop} (h : Moves w a g o n R) {i : Nat} (v : Value) (hi : o ≤ i) (hi' : i < o + n) : Moves w (a.setCell ⟨g, i, none⟩ v) g o n R :=
  h.trans (R' := fun _ => False) (Moves.setCell v hi hi') (fun _ hr => hr.elim)
theorem Moves.other {w a : World} {g o n : Nat} {R : Nat → Prop} (h : Moves w a g o n R) {k j : Nat} (v : Value) (hk : k ≠ g) (hR : R k ∨ w.heap.size ≤ k) : Moves w (a.setCell ⟨k, j, none⟩ v) g o n R :=
  ⟨h.os, h.tape, h.output, by have := h.size; simp [World.setCell]; omega,
    fun i hi hg hr => (Below.heap_setCell _ _ _ _ (fun e => by have e' : i = k := e; subst e'; exact hR.elim hr (fun h' => by omega))).trans (h.block i hi hg hr),
    fun i hi => (World.cell?_setCell_other _ _ _ _ (fun e => by injection e with e _ _; exact hk e)).trans (h.cell i hi), fun i => (World.frozen?_setCell _ _ _ _).trans (h.frozen i)⟩
theorem Moves.mono {w w' : World} {g o n : Nat} {R R' : Nat → Prop} (h : Moves w w' g o n R) (hR : ∀ r, R r → R' r) : Moves w w' g o n R' :=
  ⟨h.os, h.tape, h.output, h.size, fun k hk hg hr => h.block k hk hg (fun h' => hr (hR k h')), h.cell, h.frozen⟩
theorem Moves.below {w w' : World} {g o n B : Nat} {R : Nat → Prop} (h : Moves w w' g o n R) (hg : B ≤ g) (hR : ∀ r, R r → B ≤ r) (hB : B ≤ w.heap.size) : Below B w w' :=
  ⟨h.os, h.tape, h.output, h.size, fun k hk => h.block k (by omega) (by omega) (fun hr => by have := hR k hr; omega)⟩

/-- A row of keys of one's own. -/
def OwnK (w : World) (v : Value) (l : List Ky) : Prop := w.ownsRow 0 74 2 v l.length (cellsOfRow keyC l)
theorem keyC_len (x : Ky) : (keyC x).length = 2 := rfl
theorem keyC_one (x : Ky) : ∀ u ∈ keyC x, u.oneCell' = true := by
  intro u hu
  simp only [keyC, List.mem_cons, List.not_mem_nil, or_false] at hu
  rcases hu with rfl | rfl <;> rfl
theorem OwnK.form {w : World} {v : Value} {l : List Ky} (h : OwnK w v l) : ∃ A c, v = .slice A l.length c := own_form h
theorem OwnK.row {w : World} {v : Value} {l : List Ky} (h : OwnK w v l) : RowIn 2 keyC w v l := RowIn.own keyC_len h
theorem OwnK.nil (w : World) : OwnK w (.slice none 0 0) [] := ⟨rfl, .inl ⟨rfl, rfl⟩⟩
theorem OwnK.lt {w : World} {v : Value} {l : List Ky} (h : OwnK w v l) {r : Nat} (hr : v.ownBlock = some r) : r < w.heap.size := (World.ownsRow.lt h r hr).2
theorem own_block {w w' : World} {base : Nat} {e : TypeId} {size n : Nat} {v : Value} {xs : List Value} (h : w.ownsRow base e size v n xs) (hb : ∀ r, v.ownBlock = some r → w'.heap[r]? = w.heap[r]?) : w'.ownsRow base e size v n xs := by
  refine ⟨h.1, ?_⟩
  rcases h.2 with hn | ⟨g, cap, cur, hv, h1, h2, rest⟩
  · exact .inl hn
  · exact .inr ⟨g, cap, cur, hv, h1, (hb g (by rw [hv]; rfl)).trans h2, rest⟩
theorem OwnK.block {w w' : World} {v : Value} {l : List Ky} (h : OwnK w v l) (hb : ∀ r, v.ownBlock = some r → w'.heap[r]? = w.heap[r]?) : OwnK w' v l := own_block h hb

/-- A queue of keys at a place. -/
def FIn (w : World) (g o : Nat) (vf vb : Value) (f b : List Ky) : Prop :=
  w.cell? ⟨g, o, none⟩ = some vf ∧ w.cell? ⟨g, o + 1, none⟩ = some vb ∧ w.frozen? ⟨g, o, none⟩ = false ∧ w.frozen? ⟨g, o + 1, none⟩ = false ∧
  OwnK w vf f ∧ OwnK w vb b ∧ vf.ownBlock ≠ some g ∧ vb.ownBlock ≠ some g ∧ (∀ r, vf.ownBlock = some r → vb.ownBlock ≠ some r)

theorem FIn.lt {w : World} {g o : Nat} {vf vb : Value} {f b : List Ky} (h : FIn w g o vf vb f b) : g < w.heap.size := World.block_lt_of_cell? w ⟨g, o, none⟩ h.1
theorem FIn.keep {w w' : World} {g o : Nat} {vf vb : Value} {f b : List Ky} (h : FIn w g o vf vb f b) (hc : ∀ j, w'.cell? ⟨g, j, none⟩ = w.cell? ⟨g, j, none⟩) (hf : ∀ j, w'.frozen? ⟨g, j, none⟩ = w.frozen? ⟨g, j, none⟩)
    (hb : ∀ r, vf.ownBlock = some r ∨ vb.ownBlock = some r → w'.heap[r]? = w.heap[r]?) : FIn w' g o vf vb f b := by
  obtain ⟨h1, h2, h3, h4, h5, h6, h7⟩ := h
  exact ⟨(hc _).trans h1, (hc _).trans h2, (hf _).trans h3, (hf _).trans h4, h5.block fun r hr => hb r (.inl hr), h6.block fun r hr => hb r (.inr hr), h7⟩
theorem FIn.below {w w' : World} {g o : Nat} {vf vb : Value} {f b : List Ky} (h : FIn w g o vf vb f b) (hb : Below w.heap.size w w') : FIn w' g o vf vb f b :=
  h.keep (fun j => hb.cell (p := ⟨g, j, none⟩) h.lt) (fun j => hb.frozen (p := ⟨g, j, none⟩) h.lt) (fun r hr => hb.block r (by
    obtain ⟨_, _, _, _, h5, h6, _⟩ := h
    exact hr.elim h5.lt h6.lt))

theorem news_new (w : World) (cs : Array Value) (T B : Nat) (hB : w.heap.size = B) : ∀ j u, cs.toList[j]? = some u → (w.alloc (.cells cs T)).cell? ((⟨B, 0, none⟩ : Addr).add j) = some u := by
  subst hB
  exact World.news_of_block (heap_alloc_new _ _)
end

section
set_option linter.unusedSimpArgs false
set_option linter.unusedVariables false
open Go.RowKit Go.Lib
open Go.Maps (Keyed)
open Go.ChangeMaps (setBlock modify_eq_set map_eraseIdx)
set_option linter.unusedSectionVars false

theorem nodup_inj {α : Type} : ∀ {l : List α}, l.Nodup → ∀ {i j : Nat} {x : α}, l[i]? = some x → l[j]? = some x → i = j
  | [], _, i, j, x, h, _ => by simp at h
  | a :: l, hn, 0, 0, x, _, _ => rfl
  | a :: l, hn, 0, j + 1, x, h, k => by
    rw [List.nodup_cons] at hn
    simp at h k
    exact absurd (h ▸ List.mem_of_getElem? k) hn.1
  | a :: l, hn, i + 1, 0, x, h, k => by
    rw [List.nodup_cons] at hn
    simp at h k
    exact absurd (k ▸ List.mem_of_getElem? h) hn.1
  | a :: l, hn, i + 1, j + 1, x, h, k => by
    rw [List.nodup_cons] at hn
    simp at h k
    rw [nodup_inj hn.2 h k]

/-- Block b is a map that holds these entries, no key twice. -/
def MapIn {α β : Type} (K : α → Value) (V : β → Value) (w : World) (b : Nat) (es : List (α × β)) : Prop :=
  ∃ ents clock, w.heap[b]? = some (.map ents clock) ∧ ents.toList.map (fun e => (e.key, e.val)) = es.map (fun p => (K p.1, V p.2)) ∧ (ents.toList.map (·.born)).Nodup ∧ (∀ e ∈ ents.toList, e.born < clock) ∧ (es.map (·.1)).Nodup

section
variable {α β : Type} [DecidableEq α]
def findM (es : List (α × β)) (x : α) : Option β := (es.find? (fun p => p.1 = x)).map (·.2)
def hasM (es : List (α × β)) (x : α) : Bool := es.any (fun p => p.1 = x)
def putM (es : List (α × β)) (x : α) (v : β) : List (α × β) := if hasM es x then es.map (fun p => if p.1 = x then (x, v) else p) else es ++ [(x, v)]
def delM (es : List (α × β)) (x : α) : List (α × β) := es.filter (fun p => ¬ p.1 = x)

theorem keys_putM (es : List (α × β)) (x : α) (v : β) : (putM es x v).map (·.1) = if hasM es x then es.map (·.1) else es.map (·.1) ++ [x] := by
  unfold putM
  split
  · rw [List.map_map]
    refine List.map_congr_left (fun p _ => ?_)
    simp only [Function.comp]
    split
    · rename_i h; exact h.symm
    · rfl
  · simp
theorem hasM_iff (es : List (α × β)) (x : α) : hasM es x = true ↔ x ∈ es.map (·.1) := by
  simp [hasM]
theorem nodup_putM {es : List (α × β)} (h : (es.map (·.1)).Nodup) (x : α) (v : β) : ((putM es x v).map (·.1)).Nodup := by
  rw [keys_putM]
  split
  · exact h
  · rename_i hn
    have : x ∉ es.map (·.1) := fun hx => hn ((hasM_iff es x).2 hx)
    rw [List.nodup_append]
    refine ⟨h, by simp, fun a ha b hb => ?_⟩
    rw [List.mem_singleton.1 hb]
    exact fun e => this (e ▸ ha)
theorem nodup_delM {es : List (α × β)} (h : (es.map (·.1)).Nodup) (x : α) : ((delM es x).map (·.1)).Nodup :=
  h.sublist (List.Sublist.map _ List.filter_sublist)
theorem findM_none {es : List (α × β)} {x : α} (h : hasM es x = false) : findM es x = none := by
  simp only [findM, Option.map_eq_none_iff, List.find?_eq_none]
  intro p hp
  simp only [hasM, List.any_eq_false] at h
  exact h p hp
theorem findM_some {es : List (α × β)} {x : α} (h : hasM es x = true) : ∃ v, findM es x = some v ∧ (x, v) ∈ es := by
  simp only [hasM, List.any_eq_true, decide_eq_true_eq] at h
  obtain ⟨p, hp, rfl⟩ := h
  cases hf : es.find? (fun q => q.1 = p.1) with
  | none =>
    rw [List.find?_eq_none] at hf
    exact absurd (decide_eq_true rfl) (hf p hp)
  | some q =>
    have h1 := List.find?_some hf
    have h2 := List.mem_of_find?_eq_some hf
    simp at h1
    exact ⟨q.2, by simp [findM, hf], by rw [← h1]; exact h2⟩
end

section
variable {α β : Type} [DecidableEq α] {K : α → Value} {V : β → Value} {P : Program} {k t e : TypeId} {w : World} {b : Nat} {es : List (α × β)}

theorem MapIn.lt (h : MapIn K V w b es) : b < w.heap.size := by
  obtain ⟨ents, clock, hb, _⟩ := h
  exact (Array.getElem?_eq_some_iff.1 hb).1
theorem MapIn.block {w' : World} (h : MapIn K V w b es) (hb : w'.heap[b]? = w.heap[b]?) : MapIn K V w' b es := by
  obtain ⟨ents, clock, h1, h2⟩ := h
  exact ⟨ents, clock, hb.trans h1, h2⟩
theorem MapIn.below {w' : World} (h : MapIn K V w b es) (hb : Below w.heap.size w w') : MapIn K V w' b es := h.block (hb.block b h.lt)
theorem MapIn.made (w : World) : MapIn K V (w.alloc (.map #[] 0)) w.heap.size ([] : List (α × β)) :=
  ⟨#[], 0, (MapKept.heap_alloc w _).1, rfl, List.nodup_nil, fun _ h => by simp at h, List.nodup_nil⟩

/-- What the laws ask of the keys. -/
structure KeysBy (P : Program) (k : TypeId) (K : α → Value) : Prop where
  law : Keyed P k
  key : ∀ x, ∃ l, keyOf P k (K x) = some l
  inj : ∀ x y, K x = K y → x = y

theorem ents_at {ents : List MapEntry} (hm : ents.map (fun e => (e.key, e.val)) = es.map (fun p => (K p.1, V p.2))) {j : Nat} {e0 : MapEntry} (h : ents[j]? = some e0) : ∃ p, es[j]? = some p ∧ e0.key = K p.1 ∧ e0.val = V p.2 := by
  have := congrArg (·[j]?) hm
  simp only [List.getElem?_map, h, Option.map_some] at this
  cases hp : es[j]? with
  | none => rw [hp] at this; cases this
  | some p =>
    rw [hp] at this
    simp only [Option.map_some, Option.some.injEq, Prod.mk.injEq] at this
    exact ⟨p, rfl, this.1, this.2⟩
theorem ents_mem {ents : List MapEntry} (hm : ents.map (fun e => (e.key, e.val)) = es.map (fun p => (K p.1, V p.2))) {e0 : MapEntry} (h : e0 ∈ ents) : ∃ p ∈ es, e0.key = K p.1 ∧ e0.val = V p.2 := by
  obtain ⟨j, hj⟩ := List.getElem?_of_mem h
  obtain ⟨p, h1, h2⟩ := ents_at hm hj
  exact ⟨p, List.mem_of_getElem? h1, h2⟩

/-- Where a key stands among the entries. -/
theorem MapIn.find (B : KeysBy P k K) {ents : Array MapEntry} (hm : ents.toList.map (fun e => (e.key, e.val)) = es.map (fun p => (K p.1, V p.2))) (hn : (es.map (·.1)).Nodup) (w : World) (x : α) :
    ((Instr.findKey k (K x) ents.toList).run P w = .ok none w ∧ hasM es x = false) ∨
    ∃ j e0 v, (Instr.findKey k (K x) ents.toList).run P w = .ok (some (j, V v)) w ∧ ents.toList[j]? = some e0 ∧ e0.key = K x ∧ es[j]? = some (x, v) ∧ findM es x = some v ∧ hasM es x = true := by
  obtain ⟨l, hl⟩ := B.key x
  rcases B.law.find w hl ents.toList (fun e he => by obtain ⟨p, _, h1, _⟩ := ents_mem hm he; rw [h1]; exact B.key p.1) with ⟨h1, h2⟩ | ⟨j, e0, h1, h2, h3⟩
  · refine .inl ⟨h1, ?_⟩
    rw [hasM, List.any_eq_false]
    intro p hp
    simp only [decide_eq_true_eq]
    rintro rfl
    obtain ⟨j, hj⟩ := List.getElem?_of_mem hp
    have := congrArg (·[j]?) hm
    simp only [List.getElem?_map, hj, Option.map_some] at this
    cases he : ents.toList[j]? with
    | none => rw [he] at this; cases this
    | some e0 =>
      rw [he] at this
      simp only [Option.map_some, Option.some.injEq, Prod.mk.injEq] at this
      exact h2 e0 (List.mem_of_getElem? he) this.1
  · obtain ⟨p, hp, hk, hv⟩ := ents_at hm h2
    have hpx : p.1 = x := B.inj _ _ (hk.symm.trans h3)
    obtain ⟨x', v⟩ := p
    simp only at hpx hv
    subst hpx
    have hh : hasM es x' = true := by rw [hasM_iff]; exact List.mem_map.2 ⟨_, List.mem_of_getElem? hp, rfl⟩
    obtain ⟨v', hf, hmem⟩ := findM_some hh
    refine .inr ⟨j, e0, v, by rw [h1, hv], h2, h3, hp, ?_, hh⟩
    rw [hf]
    obtain ⟨i, hi⟩ := List.getElem?_of_mem hmem
    have hi1 : (es.map (·.1))[i]? = some x' := by simp [hi]
    have hj1 : (es.map (·.1))[j]? = some x' := by simp [hp]
    have hij : i = j := nodup_inj hn hi1 hj1
    subst hij
    rw [hp] at hi
    injection hi with hi
    injection hi with _ hi
    rw [hi]

/-- 'm[k]', 'v, ok := m[k]'. -/
theorem MapIn.look (h : MapIn K V w b es) (B : KeysBy P k K) (ht : P.underlying t = some (.map k e)) {z : Value} (hz : (zeroValue e).run P w = .ok z w) (c : Bool) (x : α) :
    (Instr.lookup t (.map (some b)) (K x) c).run P w = .ok (if c then .tuple #[((findM es x).map V).getD z, .bool (hasM es x)] else ((findM es x).map V).getD z) w := by
  obtain ⟨ents, clock, hb, hm, _, _, hn⟩ := h
  obtain ⟨l, hl⟩ := B.key x
  rcases MapIn.find B hm hn w x with ⟨h1, h2⟩ | ⟨j, e0, v, h1, _, _, _, h5, h6⟩
  · simp [Instr.lookup, run_underlying ht, MapKept.run_getObj_map hb, B.law.check w _ hl, h1, hz, findM_none h2, h2, Result.andThen]
  · simp [Instr.lookup, run_underlying ht, MapKept.run_getObj_map hb, B.law.check w _ hl, h1, h5, h6, Result.andThen]
theorem map_set_eq {γ δ : Type} (f : γ → δ) (l : List γ) (j : Nat) (y : γ) : (l.set j y).map f = (l.map f).set j (f y) := by simp

/-- 'm[k] = v'. -/
theorem MapIn.store (h : MapIn K V w b es) (B : KeysBy P k K) (ht : P.underlying t = some (.map k e)) (x : α) (v : β) :
    ∃ o, (Instr.mapUpdate t (.map (some b)) (K x) (V v)).run P w = .ok () (setBlock w b o) ∧ MapIn K V (setBlock w b o) b (putM es x v) := by
  have hlt := h.lt
  obtain ⟨ents, clock, hb, hm, hbn, hcl, hn⟩ := h
  obtain ⟨l, hl⟩ := B.key x
  have hself : ∀ o, (setBlock w b o).heap[b]? = some o := fun o => by simp [setBlock, hlt]
  rcases MapIn.find B hm hn w x with ⟨h1, h2⟩ | ⟨j, e0, v0, h1, h3, h4, h5, _, h6⟩
  · refine ⟨.map (ents.push ⟨K x, V v, clock⟩) (clock + 1), ?_, _, _, hself _, ?_, ?_, ?_, nodup_putM hn x v⟩
    · simp [Instr.mapUpdate, run_underlying ht, MapKept.run_getObj_map hb, B.law.check w false hl, h1, MapKept.run_setObj_map _ hb, Result.andThen, setBlock]
    · rw [putM, if_neg (by rw [h2]; simp), Array.toList_push, List.map_append, hm, List.map_append]
      rfl
    · rw [Array.toList_push, List.map_append, List.nodup_append]
      refine ⟨hbn, by simp, fun a ha c hc => ?_⟩
      simp only [List.map_cons, List.map_nil, List.mem_singleton] at hc
      obtain ⟨e1, he1, rfl⟩ := List.mem_map.1 ha
      have := hcl e1 he1
      omega
    · intro e1 he1
      rw [Array.toList_push, List.mem_append, List.mem_singleton] at he1
      rcases he1 with he1 | rfl
      · have := hcl e1 he1; omega
      · exact Nat.lt_succ_self _
  · have hjl : j < ents.toList.length := (List.getElem?_eq_some_iff.1 h3).1
    have hj : ents[j]? = some e0 := by simpa using h3
    have hlist : (ents.modify j (fun e' => { e' with key := K x, val := V v })).toList = ents.toList.set j { e0 with key := K x, val := V v } := by rw [Array.toList_modify, modify_eq_set _ _ _ _ h3]
    refine ⟨.map (ents.modify j (fun e' => { e' with key := K x, val := V v })) clock, ?_, _, _, hself _, ?_, ?_, ?_, nodup_putM hn x v⟩
    · simp [Instr.mapUpdate, run_underlying ht, MapKept.run_getObj_map hb, B.law.check w false hl, h1, hj, h4, B.law.stays w hl, MapKept.run_setObj_map _ hb, Result.andThen, setBlock]
    · rw [hlist, map_set_eq, hm, putM, if_pos h6]
      apply List.ext_getElem?
      intro i
      simp only [List.getElem?_set, List.getElem?_map, List.length_map]
      by_cases hij : j = i
      · subst hij
        have hjl' := (List.getElem?_eq_some_iff.1 h5).1
        rw [if_pos rfl, if_pos hjl', h5]
        simp
      · rw [if_neg hij]
        cases hi : es[i]? with
        | none => rfl
        | some q =>
          have hne : ¬ q.1 = x := by
            intro hq
            have hi1 : (es.map (·.1))[i]? = some x := by simp [hi, hq]
            have hj1 : (es.map (·.1))[j]? = some x := by simp [h5]
            exact hij (nodup_inj hn hj1 hi1)
          simp [hne]
    · rw [hlist, map_set_eq]
      have : (ents.toList.map (·.born)).set j e0.born = ents.toList.map (·.born) := by
        apply List.ext_getElem?
        intro i
        rw [List.getElem?_set]
        split
        · rename_i h
          subst h
          rw [if_pos (by simpa using hjl), List.getElem?_map, h3]
          rfl
        · rfl
      simp only [this]
      exact hbn
    · intro e1 he1
      rw [hlist] at he1
      rcases List.mem_or_eq_of_mem_set he1 with he1 | rfl
      · exact hcl e1 he1
      · exact hcl e0 (List.mem_of_getElem? h3)

theorem filter_erase {es : List (α × β)} (hn : (es.map (·.1)).Nodup) {x : α} {v : β} {j : Nat} (h : es[j]? = some (x, v)) : delM es x = es.eraseIdx j := by
  induction es generalizing j with
  | nil => simp at h
  | cons p es ih =>
    rw [List.map_cons, List.nodup_cons] at hn
    cases j with
    | zero =>
      simp at h
      subst h
      rw [delM, List.filter_cons_of_neg (by simp), List.eraseIdx_zero, List.tail_cons]
      refine List.filter_eq_self.2 (fun q hq => ?_)
      simp only [decide_eq_true_eq]
      intro e1
      exact hn.1 (List.mem_map.2 ⟨q, hq, e1⟩)
    | succ j =>
      simp at h
      have hpx : ¬ p.1 = x := fun e1 => hn.1 (List.mem_map.2 ⟨_, List.mem_of_getElem? h, e1.symm⟩)
      rw [delM, List.filter_cons_of_pos (by simpa using hpx), List.eraseIdx_cons_succ]
      exact congrArg (p :: ·) (ih hn.2 h)

/-- 'delete(m, k)'. -/
theorem MapIn.drop (h : MapIn K V w b es) (B : KeysBy P k K) (ht : P.underlying t = some (.map k e)) (x : α) (ty : TypeId) :
    ∃ o, (Builtin.delete_ #[t, k] ty #[.map (some b), K x]).run P w = .ok (.tuple #[]) (setBlock w b o) ∧ MapIn K V (setBlock w b o) b (delM es x) := by
  have hlt := h.lt
  obtain ⟨ents, clock, hb, hm, hbn, hcl, hn⟩ := h
  obtain ⟨l, hl⟩ := B.key x
  have hself : ∀ o, (setBlock w b o).heap[b]? = some o := fun o => by simp [setBlock, hlt]
  rcases MapIn.find B hm hn w x with ⟨h1, h2⟩ | ⟨j, e0, v0, h1, h3, h4, h5, _, h6⟩
  · refine ⟨.map ents clock, ?_, _, _, hself _, ?_, hbn, hcl, nodup_delM hn x⟩
    · simp [Builtin.delete_, run_underlying ht, MapKept.run_getObj_map hb, B.law.check w _ hl, h1, MapKept.run_setObj_map _ hb, Result.andThen, setBlock]
    · rw [hm]
      have : delM es x = es := List.filter_eq_self.2 (fun q hq => by
        simp only [hasM, List.any_eq_false, decide_eq_true_eq] at h2
        simpa using h2 q hq)
      rw [this]
  · have hjl : j < ents.toList.length := (List.getElem?_eq_some_iff.1 h3).1
    have hjs : j < ents.size := by simpa using hjl
    have hsub : (ents.eraseIdxIfInBounds j).toList = ents.toList.eraseIdx j := by
      unfold Array.eraseIdxIfInBounds
      rw [dif_pos hjs]
      simp
    refine ⟨.map (ents.eraseIdxIfInBounds j) clock, ?_, _, _, hself _, ?_, ?_, ?_, nodup_delM hn x⟩
    · simp [Builtin.delete_, run_underlying ht, MapKept.run_getObj_map hb, B.law.check w _ hl, h1, MapKept.run_setObj_map _ hb, Result.andThen, setBlock]
    · rw [hsub, map_eraseIdx, hm, filter_erase hn h5, map_eraseIdx]
    · rw [hsub]
      exact hbn.sublist ((List.eraseIdx_sublist _ _).map _)
    · intro e1 he1
      rw [hsub] at he1
      exact hcl e1 ((List.eraseIdx_sublist _ _).subset he1)

/-- 'len(m)'. -/
theorem MapIn.len (h : MapIn K V w b es) (ht : P.underlying t = some (.map k e)) (ty : TypeId) : (Builtin.len_ #[t] ty #[.map (some b)]).run P w = .ok (.int .i64 es.length) w := by
  obtain ⟨ents, clock, hb, hm, _⟩ := h
  have hs : ents.size = es.length := by simpa using congrArg List.length hm
  simp [Builtin.len_, run_underlying ht, MapKept.run_getObj_map hb, goInt, hs, Result.andThen]
end
end

end Go.Proofs.YtmniiodpbebnmaaGreat
