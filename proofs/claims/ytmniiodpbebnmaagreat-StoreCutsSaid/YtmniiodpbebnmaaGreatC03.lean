/- Lists of things in memory: one law for append, one for a slice's part, whether nil or not; Lists of keys as they come in; Contracts of the shelf, laid at this program (by lay-plain.mjs; numbers by name); A row of the call's own under the shelf's words for sorting and turning: HoldsK, putRowK; fifo's Queue of keys: what it is in memory; Put, Len, turn, Get. -/
import Derived.Test.YtmniiodpbebnmaaGreatC02
import Derived.Laws.AppendOwnNone
import Derived.OwnWalk
import Derived.Deep.AppendLies
import Derived.Test.YtmniiodpbebnmaaGreatC01
import Derived.Shelf.SlicesQ.Reverse
import Derived.Shelf.GgSortFunc.RowK
import Derived.Sort.Grow
import Derived.Deep.RegionLaw
import Derived.BigRegion
namespace Go.Proofs.YtmniiodpbebnmaaGreat

section
set_option linter.unusedSimpArgs false
set_option linter.unusedVariables false
open Go.RowKit Go.Lib

/-- A slice's type t, its elements' type e of n cells, each a thing's cells. -/
structure EltOf {α : Type} (t e : TypeId) (n bytes : Nat) (z : Value) (f : α → List Value) : Prop where
  ht : Tryz.prog.underlying t = some (.slice e)
  hi : (Tryz.prog.info? e).map (fun i => (i.zero, i.size, i.bytes)) = some (some z, n, bytes)
  hz : z.cells.size = n
  hn : 0 < n
  hb : bytes ≤ 1024
  len : ∀ x, (f x).length = n
  one : ∀ x, ∀ u ∈ f x, u.oneCell' = true

section
variable {α : Type} {t e : TypeId} {n bytes : Nat} {z : Value} {f : α → List Value}

def OwnL (f : α → List Value) (e : TypeId) (n base : Nat) (w : World) (v : Value) (l : List α) : Prop := w.ownsRow base e n v l.length (cellsOfRow f l)

theorem OwnL.row (E : EltOf t e n bytes z f) {base : Nat} {w : World} {v : Value} {l : List α} (h : OwnL f e n base w v l) : RowIn n f w v l := RowIn.own E.len h
theorem OwnL.below {base : Nat} {w w' : World} {v : Value} {l : List α} (h : OwnL f e n base w v l) (hb : Below w.heap.size w w') : OwnL f e n base w' v l := own_below h hb
theorem OwnL.lower {base base' : Nat} {w : World} {v : Value} {l : List α} (h : OwnL f e n base w v l) (hb : base' ≤ base) : OwnL f e n base' w v l := own_lower h hb
theorem OwnL.nil (base : Nat) (w : World) : OwnL f e n base w (.slice none 0 0) ([] : List α) := ⟨by simp [cellsOfRow], .inl ⟨rfl, rfl⟩⟩
theorem OwnL.form {base : Nat} {w : World} {v : Value} {l : List α} (h : OwnL f e n base w v l) : ∃ A c, v = .slice A l.length c := own_form h
theorem OwnL.lt {base : Nat} {w : World} {v : Value} {l : List α} (h : OwnL f e n base w v l) {r : Nat} (hr : v.ownBlock = some r) : base ≤ r ∧ r < w.heap.size := World.ownsRow.lt h r hr
theorem OwnL.kept {base : Nat} {w w' : World} {v : Value} {l : List α} (h : OwnL f e n base w v l) (hb : ∀ r, v.ownBlock = some r → w'.heap[r]? = w.heap[r]?) : OwnL f e n base w' v l := by
  refine ⟨h.1, ?_⟩
  rcases h.2 with hn | ⟨g, cap, cur, rfl, hg, hbk, rest⟩
  · exact .inl hn
  · exact .inr ⟨g, cap, cur, rfl, hg, (hb g rfl).trans hbk, rest⟩
theorem RowIn.form {w : World} {v : Value} {l : List α} (h : RowIn n f w v l) : ∃ A c, v = .slice A l.length c := by
  obtain ⟨A, c, hv, _⟩ := h
  exact ⟨A, c, hv⟩

/-- The one element of a literal. -/
theorem RowIn.lit (w : World) (x : α) (cs : Array Value) (T : TypeId) (B : Nat) (hB : w.heap.size = B) (hcs : f x = cs.toList) : RowIn n f (w.alloc (.cells cs T)) (.slice (some ⟨B, 0, none⟩) 1 1) [x] := by
  subst hB
  refine ⟨some ⟨w.heap.size, 0, none⟩, 1, rfl, Nat.le_refl _, fun _ => ⟨w.heap.size, 0, rfl, by simp, fun k y hk j u hu => ?_⟩⟩
  obtain rfl : k = 0 := by
    have := (List.getElem?_eq_some_iff.1 hk).1
    simp at this; omega
  obtain rfl : x = y := by simpa using hk
  rw [hcs] at hu
  rw [Nat.zero_mul, Nat.add_zero, Nat.zero_add, (startA w cs T).1 j]
  simpa using hu
theorem OwnL.lit0 (base : Nat) (w : World) (T : TypeId) (B : Nat) (hB : w.heap.size = B) (hb : base ≤ B) : OwnL f T n base (w.alloc (.cells #[] T)) (.slice (some ⟨B, 0, none⟩) 0 0) ([] : List α) := by
  subst hB
  exact World.ownsRow_made w #[] 0 hb (Nat.zero_le _) (by simp)

theorem run_append_nil {P : Program} {w : World} (base : Nat) (t ty e : TypeId) (i : TypeInfo) (size c : Nat) (ht : P.underlying t = some (.slice e)) (hi : P.info? e = some i)
    (v : Value) (n : Nat) (xs : List Value) (hown : w.ownsRow base e size v n xs) :
    (Builtin.append_ #[t, t] ty #[v, .slice none 0 c]).run P w = .ok v w := by
  rcases hown.2 with ⟨rfl, rfl⟩ | ⟨g, cap, cur, rfl, _, _, hnc, _⟩
  · simp [Builtin.append_, run_underlying ht, sizeOf, typeInfo, hi, Builtin.lenOf, Builtin.firstCells]
  · simp [Builtin.append_, run_underlying ht, sizeOf, typeInfo, hi, Builtin.lenOf, Builtin.firstCells, hnc, storeCells]

set_option maxRecDepth 100000 in
/-- append of a list to a list of the call's own. -/
theorem run_appendL (E : EltOf t e n bytes z f) (w : World) (ty : TypeId) (base : Nat) (l m : List α) (v v2 : Value)
    (hown : OwnL f e n base w v l) (hm : RowIn n f w v2 m) (hlen : l.length + m.length ≤ 100000000) (hbase : base ≤ w.heap.size) :
    ∃ A c w', (Builtin.append_ #[t, t] ty #[v, v2]).run Tryz.prog w = .ok (.slice A (l ++ m).length c) w' ∧ OwnL f e n base w' (.slice A (l ++ m).length c) (l ++ m) ∧ w.grownBy w' v.ownBlock ∧ ((Value.slice A (l ++ m).length c).ownBlock = v.ownBlock ∨ (Value.slice A (l ++ m).length c).ownBlock = some w.heap.size) := by
  obtain ⟨i0, hi0, hz0, hz1, hz2⟩ := info_parts E.hi
  have hby := E.hb
  obtain ⟨A2, c2, rfl, hc2, hr⟩ := hm
  cases A2 with
  | none =>
    have h0 : m.length = 0 := by
      rcases Nat.eq_zero_or_pos m.length with h | h
      · exact h
      · obtain ⟨_, _, hA, _⟩ := hr h; cases hA
    obtain rfl : m = [] := List.eq_nil_of_length_eq_zero h0
    obtain ⟨A, c, rfl⟩ := own_form hown
    refine ⟨A, c, w, ?_, ?_, ⟨rfl, rfl, rfl, Nat.le_refl _, fun _ _ _ => rfl⟩, .inl ?_⟩
    · rw [List.append_nil]
      exact run_append_nil (P := Tryz.prog) (w := w) base t ty e i0 n c2 E.ht hi0 _ _ _ hown
    · rw [List.append_nil]; exact hown
    · rw [List.append_nil]
  | some ad =>
    obtain ⟨v', w', hrun, h2, h3, _, h5⟩ := run_append_own_at (P := Tryz.prog) w base t ty e i0 z n bytes E.ht hi0 hz0 hz1 hz2 E.hz E.hn v l.length (cellsOfRow f l) hown ad m.length c2 (cellsOfRow f m) (cellsOfRow_len E.len m) (fun j u hu => by
      obtain ⟨y, hy, hyu⟩ := cellsOfRow_split E.hn E.len m j u hu
      have hml : 0 < m.length := Nat.lt_of_le_of_lt (Nat.zero_le _) (List.getElem?_eq_some_iff.1 hy).1
      obtain ⟨b, o', hA, hlt, hat⟩ := hr hml
      injection hA with hA
      subst hA
      have h := hat (j / n) y hy (j % n) u hyu
      rw [add_at, ← h]
      have hd : j / n * n + j % n = j := by rw [Nat.mul_comm]; exact Nat.div_add_mod j n
      rw [Nat.add_assoc, hd]) (cellsOfRow_one E.one m) (by simp only [maxLen]; omega) (Nat.le_trans (Nat.mul_le_mul (by omega : l.length + m.length ≤ 100000000) hby) (by omega)) hbase
    have hlen2 : (l ++ m).length = l.length + m.length := by simp
    have h2' : OwnL f e n base w' v' (l ++ m) := by
      unfold OwnL
      rw [hlen2, cellsOfRow_append]
      exact h2
    obtain ⟨A, c, rfl⟩ := own_form h2'
    exact ⟨A, c, w', hrun, h2', h3, h5⟩

theorem wpList_appendL (E : EltOf t e n bytes z f) {w : World} {ops : Array Oper} {rest : List Oper} {o : Oper} {a : Act} {Q : Exit → Act → World → Prop} (hgd : o.guard = none) {s x : Operand}
    (ho : o.op = .call { callee := .builtin .append, args := #[s, x], argTypes := #[t, t] }) (base : Nat) (l m : List α) (v v2 : Value) (hs : a.eval s = v) (hx : a.eval x = v2)
    (hown : OwnL f e n base w v l) (hm : RowIn n f w v2 m) (hlen : l.length + m.length ≤ 100000000) (hbase : base ≤ w.heap.size)
    (h : ∀ (out : List α) A c w', out = l ++ m → OwnL f e n base w' (.slice A out.length c) out → w.grownBy w' v.ownBlock → ((Value.slice A out.length c).ownBlock = v.ownBlock ∨ (Value.slice A out.length c).ownBlock = some w.heap.size) → wpList Tryz.prog ops Q rest (a.put o.dst (.slice A out.length c)) w') :
    wpList Tryz.prog ops Q (o :: rest) a w := by
  refine wpList_plain hgd fun K hK => ?_
  obtain ⟨A, c, w', hrun, h2, h3, h4⟩ := run_appendL E w o.type base l m v v2 hown hm hlen hbase
  unfold Oper.wp
  simp [execOp, ho, resolve, invoke, builtin, hs, hx, hrun, Result.andThen]
  have h6 := hK _ _ (h _ A c w' rfl h2 h3 h4)
  rw [List.length_append] at h6
  exact h6

theorem step_appendL (E : EltOf t e n bytes z f) {w : World} {ops : Array Oper} {o : Oper} {a : Act} {K : Act → World → Prop} {Q : Exit → Act → World → Prop} {X : Prop} (hgd : o.guard = none) (s x : Operand)
    (ho : o.op = .call { callee := .builtin .append, args := #[s, x], argTypes := #[t, t] }) (base : Nat) (l m : List α) (v v2 : Value) (hs : a.eval s = v) (hx : a.eval x = v2)
    (hown : OwnL f e n base w v l) (hm : RowIn n f w v2 m) (hlen : l.length + m.length ≤ 100000000) (hbase : base ≤ w.heap.size)
    (h : ∀ (out : List α) A c w', out = l ++ m → OwnL f e n base w' (.slice A out.length c) out → w.grownBy w' v.ownBlock → ((Value.slice A out.length c).ownBlock = v.ownBlock ∨ (Value.slice A out.length c).ownBlock = some w.heap.size) → K (a.put o.dst (.slice A out.length c)) w') :
    if Region.wanted o (yielded ops a.tmps) = true then Oper.wp Tryz.prog o a w K Q else X := by
  have hw : Region.wanted o (yielded ops a.tmps) = true := by simp [Region.wanted, hgd]
  rw [if_pos hw]
  obtain ⟨A, c, w', hrun, h2, h3, h4⟩ := run_appendL E w o.type base l m v v2 hown hm hlen hbase
  unfold Oper.wp
  simp [execOp, ho, resolve, invoke, builtin, hs, hx, hrun, Result.andThen]
  have h6 := h _ A c w' rfl h2 h3 h4
  rw [List.length_append] at h6
  exact h6

/-- Behind an append all that lies below is as it was. -/
theorem grown_own {base : Nat} {w w' W : World} {v : Value} {l : List α} (hg : w.grownBy w' v.ownBlock) (hown : OwnL f e n base W v l) (hb : base ≤ w.heap.size) : Below base w w' :=
  grown_below hg hb (fun r hr => (hown.lt hr).1)

/-- A part of a list: what the walk's slice comes to, and what it holds. -/
theorem row_from (E : EltOf t e n bytes z f) {w : World} {A : Option Addr} {c : Nat} {l : List α} (h : RowIn n f w (.slice A l.length c) l) (a : Nat) (ha : a ≤ l.length) :
    ∃ (m : List α) (A2 : Option Addr) (c2 : Nat), m = l.drop a ∧ (∀ w' : World, (Instr.sliceAt t (.slice A l.length c) (some (.int .i64 a)) none none).run Tryz.prog w' = .ok (.slice A2 m.length c2) w') ∧ RowIn n f w (.slice A2 m.length c2) m := by
  obtain ⟨i0, hi0, hz0, hz1, hz2⟩ := info_parts E.hi
  have hp := RowIn.part h (i := a) (j := l.length) ha (Nat.le_refl _)
  rw [List.take_length] at hp
  have hlen : (l.drop a).length = l.length - a := by simp
  have hel : Tryz.prog.elem t = e := by simp [Program.elem, E.ht]
  refine ⟨l.drop a, _, _, rfl, fun w' => ?_, by rw [hlen]; exact hp⟩
  rw [run_sliceAt_slice _ t _ _ _ _ (by rw [hel]; exact E.ht), run_slice_l _ t A l.length c (by rw [hel]; exact E.ht) _ _ (by omega) (by omega), hel]
  simp [sizeOf, typeInfo, hi0, hz1, Result.andThen, sliced, hlen]
end
end

section
set_option linter.unusedSimpArgs false
set_option linter.unusedVariables false
open Go.RowKit Go.Lib Go.ChangeShapes Go.WideShapes Go.Joins

theorem cl_key : Tryz.prog.cellsOf 74 = 2 := by kernel_rfl
theorem cl_u64 : Tryz.prog.cellsOf 72 = 1 := by kernel_rfl

def keyC (p : Ky) : List Value := [.int .u64 p.1, .int .u64 p.2]

theorem keysIn_row {w : World} {v : Value} {l : List Ky} (h : RowIn 2 keyC w v l) : KeysIn w v l := by
  obtain ⟨A, c, hv, _, h⟩ := h
  refine ⟨A, c, hv, fun hn => ?_⟩
  obtain ⟨b, o, hA, hlt, h⟩ := h hn
  refine ⟨b, o, hA, hlt, fun j u hu => ?_⟩
  obtain ⟨x, h1, h2⟩ := cellsOfRow_split (n := 2) (f := keyC) (by decide) (fun _ => rfl) l j u hu
  have := h _ x h1 _ u h2
  rw [show o + j / 2 * 2 + j % 2 = o + j by omega] at this
  exact this
theorem row_keysIn {w : World} {A : Option Addr} {m c : Nat} {l : List Ky} (h : KeysIn w (.slice A m c) l) (hc : m ≤ c) : RowIn 2 keyC w (.slice A m c) l := by
  obtain ⟨A1, c1, hv, h⟩ := h
  injection hv with e1 e2 e3
  subst e1 e2 e3
  refine ⟨_, _, rfl, hc, fun hn => ?_⟩
  obtain ⟨b, o, hA, hlt, h⟩ := h hn
  refine ⟨b, o, hA, hlt, fun k x hk j u hu => ?_⟩
  have := h _ u (cellsOfRow_at (n := 2) (f := keyC) (fun _ => rfl) l k x hk j u hu)
  rwa [← Nat.add_assoc] at this

section
variable {H : Type} {enc : TypeId × Value → H} {w : World} {base : Nat} {spare : Nat → Bool} {held : Bool}

end
end

section
set_option linter.unusedSimpArgs false
set_option linter.unusedVariables false
open Go.Shelf
end

section
set_option linter.unusedSimpArgs false
set_option linter.unusedVariables false
open Go.RowKit Go.Lib Go.Sort

section
variable {α : Type} [Inhabited α] {f : α → List Value} {n : Nat}

theorem flat_row (hf : ∀ x, (f x).length = n) (hn : 0 < n) (l : List α) : flatK f n l.toArray = (cellsOfRow f l).toArray := by
  refine ext_get! (by simp [cellsOfRow_len hf]) fun t ht => ?_
  have ht' : t < l.length * n := by simpa using ht
  rw [get_flatK _ _ _ t (by simpa using ht')]
  have hk : t / n < l.length := by rw [Nat.div_lt_iff_lt_mul hn]; exact ht'
  have hm : t % n < (f l[t / n]).length := by rw [hf]; exact Nat.mod_lt _ hn
  have hlt : t < (cellsOfRow f l).length := by rw [cellsOfRow_len hf]; exact ht'
  have h := cellsOfRow_at hf l (t / n) l[t / n] (List.getElem?_eq_getElem hk) (t % n) _ (List.getElem?_eq_getElem hm)
  rw [show t / n * n + t % n = t by rw [Nat.mul_comm]; exact Nat.div_add_mod t n] at h
  have e1 : (cellsOfRow f l).toArray[t]! = (f l[t / n])[t % n] := by
    rw [getElem!_pos _ t (by simpa using hlt)]
    have := (List.getElem?_eq_some_iff.1 h).2
    simpa using this
  rw [e1]
  have e2 : l.toArray[t / n]! = l[t / n] := by rw [getElem!_pos _ _ (by simpa using hk)]; simp
  rw [e2]
  exact getElem!_pos (f l[t / n]) (t % n) hm

theorem holdsK_own (hf : ∀ x, (f x).length = n) (hn : 0 < n) {w : World} {base g cap : Nat} {e : TypeId} {l : List α} (h : w.ownsRow base e n (.slice (some ⟨g, 0, none⟩) l.length cap) l.length (cellsOfRow f l)) :
    HoldsK f n w g 0 l.toArray := by
  unfold HoldsK
  rw [flat_row hf hn]
  intro j hj
  have hj' : j < (cellsOfRow f l).length := by simpa using hj
  have hjl := hj'
  rw [cellsOfRow_len hf] at hjl
  have hc := h.cellAt j hjl
  rcases h.2 with ⟨hv, _⟩ | ⟨g', cap', cur, hv, _, hg, _⟩
  · cases hv
  · injection hv with e1 e2 e3
    injection e1 with e1
    injection e1 with e1
    subst e1
    refine ⟨?_, Go.Joins.unfrozen_of_block hg (0 + j)⟩
    rw [Nat.zero_add, hc, List.getElem?_eq_getElem hj', getElem!_pos _ j hj]
    simp

theorem take_put (F : List Value) (c : Array Value) (h : F.length ≤ c.size) : (putCells id 0 F.toArray c).toList.take F.length = F := by
  apply List.ext_getElem?
  intro i
  rw [List.getElem?_take]
  by_cases hi : i < F.length
  · rw [if_pos hi, Array.getElem?_toList, putCells, Array.getElem?_mapIdx, Array.getElem?_eq_getElem (by omega), Option.map_some, if_pos ⟨Nat.zero_le _, by simpa using hi⟩, Nat.sub_zero, List.getElem?_eq_getElem hi]
    simp [hi]
  · rw [if_neg hi, List.getElem?_eq_none (by omega)]

theorem putRow_heap {w : World} {g : Nat} {cur : Array Value} {e : TypeId} {fr : Nat × Nat} (F : Array Value) (hb : w.heap[g]? = some (.cells cur e fr)) :
    (putRow id w g 0 F).heap[g]? = some (.cells (putCells id 0 F cur) e fr) := by
  simp only [putRow, mapBlock, Array.getElem?_modify, if_pos]
  rw [hb]
  rfl
theorem putRow_other {w : World} {g k : Nat} (F : Array Value) (h : k ≠ g) : (putRow id w g 0 F).heap[k]? = w.heap[k]? := by
  simp only [putRow, mapBlock, Array.getElem?_modify, if_neg (Ne.symm h)]

/-- Behind a turning: the same slice owns what was laid. -/
theorem own_putRowK (hf : ∀ x, (f x).length = n) (hn : 0 < n) {w : World} {base g cap k : Nat} {e : TypeId} {l m : List α} (h : w.ownsRow base e n (.slice (some ⟨g, 0, none⟩) l.length cap) l.length (cellsOfRow f l)) (hm : m.length = l.length) (os : Array Obj) :
    (grow (putRowK f n (Sort.ahead w k) g 0 m.toArray) os).ownsRow base e n (.slice (some ⟨g, 0, none⟩) m.length cap) m.length (cellsOfRow f m) ∧ w.grownBy (grow (putRowK f n (Sort.ahead w k) g 0 m.toArray) os) (some g) := by
  rcases h.2 with ⟨hv, _⟩ | ⟨g', cap', cur, hv, hbase, hg, h1, h2, h3, h4⟩
  · cases hv
  · injection hv with e1 e2 e3
    injection e1 with e1
    injection e1 with e1
    subst e1 e3
    have hglt : g < w.heap.size := (Array.getElem?_eq_some_iff.1 hg).1
    unfold putRowK
    rw [flat_row hf hn]
    have hsz : (putRow id (Sort.ahead w k) g 0 (cellsOfRow f m).toArray).heap.size = w.heap.size := by simp [putRow, mapBlock, Sort.ahead]
    have hblk : (grow (putRow id (Sort.ahead w k) g 0 (cellsOfRow f m).toArray) os).heap[g]? = some (.cells (putCells id 0 (cellsOfRow f m).toArray cur) e (0, 0)) := by
      rw [heap_grow_old _ _ (by rw [hsz]; exact hglt)]
      exact putRow_heap (w := Sort.ahead w k) _ hg
    have hle : (cellsOfRow f m).length ≤ cur.size := by
      rw [cellsOfRow_len hf, hm, h3]
      exact Nat.mul_le_mul_right _ h1
    refine ⟨⟨cellsOfRow_len hf m, .inr ⟨g, cap, _, rfl, hbase, hblk, by omega, h2, by simp [putCells, h3], ?_⟩⟩, ⟨rfl, rfl, rfl, by simp only [grow, Array.size_append, hsz]; omega, fun j hj hne => ?_⟩⟩
    · have := take_put (cellsOfRow f m) cur hle
      rwa [cellsOfRow_len hf] at this
    · rw [heap_grow_old _ _ (by rw [hsz]; exact hj)]
      exact putRow_other (w := Sort.ahead w k) _ (fun e => hne (by rw [e]))
end
end

section
set_option linter.unusedSimpArgs false
set_option linter.unusedVariables false
open Go.RowKit Go.Lib

/-- What may have turned: block g from o to o + n, the blocks of R, and what is new. -/
structure Moves (w w' : World) (g o n : Nat) (R : Nat → Prop) : Prop where
  os : w'.os = w.os
  tape : w'.tape = w.tape
  output : w'.output = w.output
  size : w.heap.size ≤ w'.heap.size
  block : ∀ k, k < w.heap.size → k ≠ g → ¬ R k → w'.heap[k]? = w.heap[k]?
  cell : ∀ j, (j < o ∨ o + n ≤ j) → w'.cell? ⟨g, j, none⟩ = w.cell? ⟨g, j, none⟩
  frozen : ∀ j, w'.frozen? ⟨g, j, none⟩ = w.frozen? ⟨g, j, none⟩

theorem Moves.refl (w : World) (g o n : Nat) (R : Nat → Prop) : Moves w w g o n R := ⟨rfl, rfl, rfl, Nat.le_refl _, fun _ _ _ _ => rfl, fun _ _ => rfl, fun _ => rfl⟩
theorem Moves.trans {w a b : World} {g o n : Nat} {R R' : Nat → Prop} (h : Moves w a g o n R) (k : Moves a b g o n R') (hR : ∀ r, R' r → R r ∨ w.heap.size ≤ r) : Moves w b g o n R :=
  ⟨k.os.trans h.os, k.tape.trans h.tape, k.output.trans h.output, Nat.le_trans h.size k.size,
    fun i hi hg hr => (k.block i (Nat.lt_of_lt_of_le hi h.size) hg (fun hr' => (hR i hr').elim hr (fun h' => by omega))).trans (h.block i hi hg hr),
    fun j hj => (k.cell j hj).trans (h.cell j hj), fun j => (k.frozen j).trans (h.frozen j)⟩
theorem Moves.of_below {w w' : World} {g o n : Nat} {R : Nat → Prop} (h : Below w.heap.size w w') (hg : g < w.heap.size) : Moves w w' g o n R :=
  ⟨h.os, h.tape, h.output, h.size, fun k hk _ _ => h.block k hk, fun j _ => h.cell (p := ⟨g, j, none⟩) hg, fun j => h.frozen (p := ⟨g, j, none⟩) hg⟩
theorem Moves.setCell {w : World} {g o n i : Nat} {R : Nat → Prop} (v : Value) (hi : o ≤ i) (hi' : i < o + n) : Moves w (w.setCell ⟨g, i, none⟩ v) g o n R :=
  ⟨rfl, rfl, rfl, by simp [World.setCell], fun k _ hk _ => Below.heap_setCell _ _ _ _ hk, fun j hj => World.cell?_setCell_other w _ _ v (fun e => by injection e with _ e _; omega), fun j => World.frozen?_setCell _ _ _ _⟩
theorem Moves.grown {w w' : World} {g o n : Nat} {R : Nat → Prop} {row : Option Nat} (h : w.grownBy w' row) (hr : ∀ k, row = some k → R k) (hg : row ≠ some g) (hlt : g < w.heap.size) : Moves w w' g o n R :=
  ⟨h.os, h.tape, h.output, h.size, fun k hk _ hnr => h.block k hk (fun e => hnr (hr k e.symm)), fun j _ => h.cell_far ⟨g, j, none⟩ hlt (Ne.symm hg), fun j => h.frozen_far ⟨g, j, none⟩ hlt (Ne.symm hg)⟩
theorem Moves.set {w a : World} {g o n : Nat} {R : Nat → Prop} (h : Moves w a g o n R) {i : Nat} (v : Value) (hi : o ≤ i) (hi' : i < o + n) : Moves w (a.setCell ⟨g, i, none⟩ v) g o n R :=
  h.trans (R' := fun _ => False) (Moves.setCell v hi hi') (fun _ hr => hr.elim)
theorem Moves.other {w a : World} {g o n : Nat} {R : Nat → Prop} (h : Moves w a g o n R) {k j : Nat} (v : Value) (hk : k ≠ g) (hR : R k ∨ w.heap.size ≤ k) : Moves w (a.setCell ⟨k, j, none⟩ v) g o n R :=
  ⟨h.os, h.tape, h.output, by have := h.size; simp [World.setCell]; omega,
    fun i hi hg hr => (Below.heap_setCell _ _ _ _ (fun e => by have e' : i = k := e; subst e'; exact hR.elim hr (fun h' => by omega))).trans (h.block i hi hg hr),
    fun i hi => (World.cell?_setCell_other _ _ _ _ (fun e => by injection e with e _ _; exact hk e)).trans (h.cell i hi), fun i => (World.frozen?_setCell _ _ _ _).trans (h.frozen i)⟩
theorem Moves.mono {w w' : World} {g o n : Nat} {R R' : Nat → Prop} (h : Moves w w' g o n R) (hR : ∀ r, R r → R' r) : Moves w w' g o n R' :=
  ⟨h.os, h.tape, h.output, h.size, fun k hk hg hr => h.block k hk hg (fun h' => hr (hR k h')), h.cell, h.frozen⟩
theorem Moves.below {w w' : World} {g o n B : Nat} {R : Nat → Prop} (h : Moves w w' g o n R) (hg : B ≤ g) (hR : ∀ r, R r → B ≤ r) (hB : B ≤ w.heap.size) : Below B w w' :=
  ⟨h.os, h.tape, h.output, h.size, fun k hk => h.block k (by omega) (by omega) (fun hr => by have := hR k hr; omega)⟩

/-- A row of keys of one's own. -/
def OwnK (w : World) (v : Value) (l : List Ky) : Prop := w.ownsRow 0 74 2 v l.length (cellsOfRow keyC l)
theorem keyC_len (x : Ky) : (keyC x).length = 2 := rfl
theorem keyC_one (x : Ky) : ∀ u ∈ keyC x, u.oneCell' = true := by
  intro u hu
  simp only [keyC, List.mem_cons, List.not_mem_nil, or_false] at hu
  rcases hu with rfl | rfl <;> rfl
theorem OwnK.form {w : World} {v : Value} {l : List Ky} (h : OwnK w v l) : ∃ A c, v = .slice A l.length c := own_form h
theorem OwnK.row {w : World} {v : Value} {l : List Ky} (h : OwnK w v l) : RowIn 2 keyC w v l := RowIn.own keyC_len h
theorem OwnK.nil (w : World) : OwnK w (.slice none 0 0) [] := ⟨rfl, .inl ⟨rfl, rfl⟩⟩
theorem OwnK.lt {w : World} {v : Value} {l : List Ky} (h : OwnK w v l) {r : Nat} (hr : v.ownBlock = some r) : r < w.heap.size := (World.ownsRow.lt h r hr).2
theorem own_block {w w' : World} {base : Nat} {e : TypeId} {size n : Nat} {v : Value} {xs : List Value} (h : w.ownsRow base e size v n xs) (hb : ∀ r, v.ownBlock = some r → w'.heap[r]? = w.heap[r]?) : w'.ownsRow base e size v n xs := by
  refine ⟨h.1, ?_⟩
  rcases h.2 with hn | ⟨g, cap, cur, hv, h1, h2, rest⟩
  · exact .inl hn
  · exact .inr ⟨g, cap, cur, hv, h1, (hb g (by rw [hv]; rfl)).trans h2, rest⟩
theorem OwnK.block {w w' : World} {v : Value} {l : List Ky} (h : OwnK w v l) (hb : ∀ r, v.ownBlock = some r → w'.heap[r]? = w.heap[r]?) : OwnK w' v l := own_block h hb

/-- A queue of keys at a place. -/
def FIn (w : World) (g o : Nat) (vf vb : Value) (f b : List Ky) : Prop :=
  w.cell? ⟨g, o, none⟩ = some vf ∧ w.cell? ⟨g, o + 1, none⟩ = some vb ∧ w.frozen? ⟨g, o, none⟩ = false ∧ w.frozen? ⟨g, o + 1, none⟩ = false ∧
  OwnK w vf f ∧ OwnK w vb b ∧ vf.ownBlock ≠ some g ∧ vb.ownBlock ≠ some g ∧ (∀ r, vf.ownBlock = some r → vb.ownBlock ≠ some r)

theorem FIn.lt {w : World} {g o : Nat} {vf vb : Value} {f b : List Ky} (h : FIn w g o vf vb f b) : g < w.heap.size := World.block_lt_of_cell? w ⟨g, o, none⟩ h.1
theorem FIn.keep {w w' : World} {g o : Nat} {vf vb : Value} {f b : List Ky} (h : FIn w g o vf vb f b) (hc : ∀ j, w'.cell? ⟨g, j, none⟩ = w.cell? ⟨g, j, none⟩) (hf : ∀ j, w'.frozen? ⟨g, j, none⟩ = w.frozen? ⟨g, j, none⟩)
    (hb : ∀ r, vf.ownBlock = some r ∨ vb.ownBlock = some r → w'.heap[r]? = w.heap[r]?) : FIn w' g o vf vb f b := by
  obtain ⟨h1, h2, h3, h4, h5, h6, h7⟩ := h
  exact ⟨(hc _).trans h1, (hc _).trans h2, (hf _).trans h3, (hf _).trans h4, h5.block fun r hr => hb r (.inl hr), h6.block fun r hr => hb r (.inr hr), h7⟩
theorem FIn.below {w w' : World} {g o : Nat} {vf vb : Value} {f b : List Ky} (h : FIn w g o vf vb f b) (hb : Below w.heap.size w w') : FIn w' g o vf vb f b :=
  h.keep (fun j => hb.cell (p := ⟨g, j, none⟩) h.lt) (fun j => hb.frozen (p := ⟨g, j, none⟩) h.lt) (fun r hr => hb.block r (by
    obtain ⟨_, _, _, _, h5, h6, _⟩ := h
    exact hr.elim h5.lt h6.lt))

theorem news_new (w : World) (cs : Array Value) (T B : Nat) (hB : w.heap.size = B) : ∀ j u, cs.toList[j]? = some u → (w.alloc (.cells cs T)).cell? ((⟨B, 0, none⟩ : Addr).add j) = some u := by
  subst hB
  exact World.news_of_block (heap_alloc_new _ _)
end

end Go.Proofs.YtmniiodpbebnmaaGreat
