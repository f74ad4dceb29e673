/- Lists of things in memory: one law for append, one for a slice's part, whether nil or not; Lists of keys as they come in; Contracts of the shelf, laid at this program (by lay-plain.mjs; numbers by name); A row of the call's own under the shelf's words for sorting and turning: HoldsK, putRowK. -/
import Derived.Test.YtmniiodpbebnmaaGreatJ02
import Derived.Laws.AppendOwnNone
import Derived.OwnWalk
import Derived.Deep.AppendLies
import Derived.Test.YtmniiodpbebnmaaGreatJ01
import Derived.Shelf.SlicesQ.Reverse
import Derived.Shelf.GgSortFunc.RowK
import Derived.Sort.Grow
namespace Go.Proofs.YtmniiodpbebnmaaGreat

section
set_option linter.unusedSimpArgs false
set_option linter.unusedVariables false
open Go.RowKit Go.Lib

/-- A slice's type t, its elements' type e of n cells, each a thing's cells. -/
structure EltOf {α : Type} (t e : TypeId) (n bytes : Nat) (z : Value) (f : α → List Value) : Prop where
  ht : Tryz.prog.underlying t = some (.slice e)
  hi : (Tryz.prog.info? e).map (fun i => (i.zero, i.size, i.bytes)) = some (some z, n, bytes)
  hz : z.cells.size = n
  hn : 0 < n
  hb : bytes ≤ 1024
  len : ∀ x, (f x).length = n
  one : ∀ x, ∀ u ∈ f x, u.oneCell' = true

section
variable {α : Type} {t e : TypeId} {n bytes : Nat} {z : Value} {f : α → List Value}

def OwnL (f : α → List Value) (e : TypeId) (n base : Nat) (w : World) (v : Value) (l : List α) : Prop := w.ownsRow base e n v l.length (cellsOfRow f l)

theorem OwnL.row (E : EltOf t e n bytes z f) {base : Nat} {w : World} {v : Value} {l : List α} (h : OwnL f e n base w v l) : RowIn n f w v l := RowIn.own E.len h
theorem OwnL.below {base : Nat} {w w' : World} {v : Value} {l : List α} (h : OwnL f e n base w v l) (hb : Below w.heap.size w w') : OwnL f e n base w' v l := own_below h hb
theorem OwnL.lower {base base' : Nat} {w : World} {v : Value} {l : List α} (h : OwnL f e n base w v l) (hb : base' ≤ base) : OwnL f e n base' w v l := own_lower h hb
theorem OwnL.nil (base : Nat) (w : World) : OwnL f e n base w (.slice none 0 0) ([] : List α) := ⟨by simp [cellsOfRow], .inl ⟨rfl, rfl⟩⟩
theorem OwnL.form {base : Nat} {w : World} {v : Value} {l : List α} (h : OwnL f e n base w v l) : ∃ A c, v = .slice A l.length c := own_form h
theorem OwnL.lt {base : Nat} {w : World} {v : Value} {l : List α} (h : OwnL f e n base w v l) {r : Nat} (hr : v.ownBlock = some r) : base ≤ r ∧ r < w.heap.size := World.ownsRow.lt h r hr
theorem OwnL.kept {base : Nat} {w w' : World} {v : Value} {l : List α} (h : OwnL f e n base w v l) (hb : ∀ r, v.ownBlock = some r → w'.heap[r]? = w.heap[r]?) : OwnL f e n base w' v l := by
  refine ⟨h.1, ?_⟩
  rcases h.2 with hn | ⟨g, cap, cur, rfl, hg, hbk, rest⟩
  · exact .inl hn
  · exact .inr ⟨g, cap, cur, rfl, hg, (hb g rfl).trans hbk, rest⟩
theorem RowIn.form {w : World} {v : Value} {l : List α} (h : RowIn n f w v l) : ∃ A c, v = .slice A l.length c := by
  obtain ⟨A, c, hv, _⟩ := h
  exact ⟨A, c, hv⟩

/-- The one element of a literal. -/
theorem RowIn.lit (w : World) (x : α) (cs : Array Value) (T : TypeId) (B : Nat) (hB : w.heap.size = B) (hcs : f x = cs.toList) : RowIn n f (w.alloc (.cells cs T)) (.slice (some ⟨B, 0, none⟩) 1 1) [x] := by
  subst hB
  refine ⟨some ⟨w.heap.size, 0, none⟩, 1, rfl, Nat.le_refl _, fun _ => ⟨w.heap.size, 0, rfl, by simp, fun k y hk j u hu => ?_⟩⟩
  obtain rfl : k = 0 := by
    have := (List.getElem?_eq_some_iff.1 hk).1
    simp at this; omega
  obtain rfl : x = y := by simpa using hk
  rw [hcs] at hu
  rw [Nat.zero_mul, Nat.add_zero, Nat.zero_add, (startA w cs T).1 j]
  simpa using hu
theorem OwnL.lit0 (base : Nat) (w : World) (T : TypeId) (B : Nat) (hB : w.heap.size = B) (hb : base ≤ B) : OwnL f T n base (w.alloc (.cells #[] T)) (.slice (some ⟨B, 0, none⟩) 0 0) ([] : List α) := by
  subst hB
  exact World.ownsRow_made w #[] 0 hb (Nat.zero_le _) (by simp)

theorem run_append_nil {P : Program} {w : World} (base : Nat) (t ty e : TypeId) (i : TypeInfo) (size c : Nat) (ht : P.underlying t = some (.slice e)) (hi : P.info? e = some i)
    (v : Value) (n : Nat) (xs : List Value) (hown : w.ownsRow base e size v n xs) :
    (Builtin.append_ #[t, t] ty #[v, .slice none 0 c]).run P w = .ok v w := by
  rcases hown.2 with ⟨rfl, rfl⟩ | ⟨g, cap, cur, rfl, _, _, hnc, _⟩
  · simp [Builtin.append_, run_underlying ht, sizeOf, typeInfo, hi, Builtin.lenOf, Builtin.firstCells]
  · simp [Builtin.append_, run_underlying ht, sizeOf, typeInfo, hi, Builtin.lenOf, Builtin.firstCells, hnc, storeCells]

set_option maxRecDepth 100000 in
/-- append of a list to a list of the call's own. -/
theorem run_appendL (E : EltOf t e n bytes z f) (w : World) (ty : TypeId) (base : Nat) (l m : List α) (v v2 : Value)
    (hown : OwnL f e n base w v l) (hm : RowIn n f w v2 m) (hlen : l.length + m.length ≤ 100000000) (hbase : base ≤ w.heap.size) :
    ∃ A c w', (Builtin.append_ #[t, t] ty #[v, v2]).run Tryz.prog w = .ok (.slice A (l ++ m).length c) w' ∧ OwnL f e n base w' (.slice A (l ++ m).length c) (l ++ m) ∧ w.grownBy w' v.ownBlock ∧ ((Value.slice A (l ++ m).length c).ownBlock = v.ownBlock ∨ (Value.slice A (l ++ m).length c).ownBlock = some w.heap.size) := by
  obtain ⟨i0, hi0, hz0, hz1, hz2⟩ := info_parts E.hi
  have hby := E.hb
  obtain ⟨A2, c2, rfl, hc2, hr⟩ := hm
  cases A2 with
  | none =>
    have h0 : m.length = 0 := by
      rcases Nat.eq_zero_or_pos m.length with h | h
      · exact h
      · obtain ⟨_, _, hA, _⟩ := hr h; cases hA
    obtain rfl : m = [] := List.eq_nil_of_length_eq_zero h0
    obtain ⟨A, c, rfl⟩ := own_form hown
    refine ⟨A, c, w, ?_, ?_, ⟨rfl, rfl, rfl, Nat.le_refl _, fun _ _ _ => rfl⟩, .inl ?_⟩
    · rw [List.append_nil]
      exact run_append_nil (P := Tryz.prog) (w := w) base t ty e i0 n c2 E.ht hi0 _ _ _ hown
    · rw [List.append_nil]; exact hown
    · rw [List.append_nil]
  | some ad =>
    obtain ⟨v', w', hrun, h2, h3, _, h5⟩ := run_append_own_at (P := Tryz.prog) w base t ty e i0 z n bytes E.ht hi0 hz0 hz1 hz2 E.hz E.hn v l.length (cellsOfRow f l) hown ad m.length c2 (cellsOfRow f m) (cellsOfRow_len E.len m) (fun j u hu => by
      obtain ⟨y, hy, hyu⟩ := cellsOfRow_split E.hn E.len m j u hu
      have hml : 0 < m.length := Nat.lt_of_le_of_lt (Nat.zero_le _) (List.getElem?_eq_some_iff.1 hy).1
      obtain ⟨b, o', hA, hlt, hat⟩ := hr hml
      injection hA with hA
      subst hA
      have h := hat (j / n) y hy (j % n) u hyu
      rw [add_at, ← h]
      have hd : j / n * n + j % n = j := by rw [Nat.mul_comm]; exact Nat.div_add_mod j n
      rw [Nat.add_assoc, hd]) (cellsOfRow_one E.one m) (by simp only [maxLen]; omega) (Nat.le_trans (Nat.mul_le_mul (by omega : l.length + m.length ≤ 100000000) hby) (by omega)) hbase
    have hlen2 : (l ++ m).length = l.length + m.length := by simp
    have h2' : OwnL f e n base w' v' (l ++ m) := by
      unfold OwnL
      rw [hlen2, cellsOfRow_append]
      exact h2
    obtain ⟨A, c, rfl⟩ := own_form h2'
    exact ⟨A, c, w', hrun, h2', h3, h5⟩

theorem wpList_appendL (E : EltOf t e n bytes z f) {w : World} {ops : Array Oper} {rest : List Oper} {o : Oper} {a : Act} {Q : Exit → Act → World → Prop} (hgd : o.guard = none) {s x : Operand}
    (ho : o.op = .call { callee := .builtin .append, args := #[s, x], argTypes := #[t, t] }) (base : Nat) (l m : List α) (v v2 : Value) (hs : a.eval s = v) (hx : a.eval x = v2)
    (hown : OwnL f e n base w v l) (hm : RowIn n f w v2 m) (hlen : l.length + m.length ≤ 100000000) (hbase : base ≤ w.heap.size)
    (h : ∀ (out : List α) A c w', out = l ++ m → OwnL f e n base w' (.slice A out.length c) out → w.grownBy w' v.ownBlock → ((Value.slice A out.length c).ownBlock = v.ownBlock ∨ (Value.slice A out.length c).ownBlock = some w.heap.size) → wpList Tryz.prog ops Q rest (a.put o.dst (.slice A out.length c)) w') :
    wpList Tryz.prog ops Q (o :: rest) a w := by
  refine wpList_plain hgd fun K hK => ?_
  obtain ⟨A, c, w', hrun, h2, h3, h4⟩ := run_appendL E w o.type base l m v v2 hown hm hlen hbase
  unfold Oper.wp
  simp [execOp, ho, resolve, invoke, builtin, hs, hx, hrun, Result.andThen]
  have h6 := hK _ _ (h _ A c w' rfl h2 h3 h4)
  rw [List.length_append] at h6
  exact h6

theorem step_appendL (E : EltOf t e n bytes z f) {w : World} {ops : Array Oper} {o : Oper} {a : Act} {K : Act → World → Prop} {Q : Exit → Act → World → Prop} {X : Prop} (hgd : o.guard = none) (s x : Operand)
    (ho : o.op = .call { callee := .builtin .append, args := #[s, x], argTypes := #[t, t] }) (base : Nat) (l m : List α) (v v2 : Value) (hs : a.eval s = v) (hx : a.eval x = v2)
    (hown : OwnL f e n base w v l) (hm : RowIn n f w v2 m) (hlen : l.length + m.length ≤ 100000000) (hbase : base ≤ w.heap.size)
    (h : ∀ (out : List α) A c w', out = l ++ m → OwnL f e n base w' (.slice A out.length c) out → w.grownBy w' v.ownBlock → ((Value.slice A out.length c).ownBlock = v.ownBlock ∨ (Value.slice A out.length c).ownBlock = some w.heap.size) → K (a.put o.dst (.slice A out.length c)) w') :
    if Region.wanted o (yielded ops a.tmps) = true then Oper.wp Tryz.prog o a w K Q else X := by
  have hw : Region.wanted o (yielded ops a.tmps) = true := by simp [Region.wanted, hgd]
  rw [if_pos hw]
  obtain ⟨A, c, w', hrun, h2, h3, h4⟩ := run_appendL E w o.type base l m v v2 hown hm hlen hbase
  unfold Oper.wp
  simp [execOp, ho, resolve, invoke, builtin, hs, hx, hrun, Result.andThen]
  have h6 := h _ A c w' rfl h2 h3 h4
  rw [List.length_append] at h6
  exact h6

/-- Behind an append all that lies below is as it was. -/
theorem grown_own {base : Nat} {w w' W : World} {v : Value} {l : List α} (hg : w.grownBy w' v.ownBlock) (hown : OwnL f e n base W v l) (hb : base ≤ w.heap.size) : Below base w w' :=
  grown_below hg hb (fun r hr => (hown.lt hr).1)

/-- A part of a list: what the walk's slice comes to, and what it holds. -/
theorem row_from (E : EltOf t e n bytes z f) {w : World} {A : Option Addr} {c : Nat} {l : List α} (h : RowIn n f w (.slice A l.length c) l) (a : Nat) (ha : a ≤ l.length) :
    ∃ (m : List α) (A2 : Option Addr) (c2 : Nat), m = l.drop a ∧ (∀ w' : World, (Instr.sliceAt t (.slice A l.length c) (some (.int .i64 a)) none none).run Tryz.prog w' = .ok (.slice A2 m.length c2) w') ∧ RowIn n f w (.slice A2 m.length c2) m := by
  obtain ⟨i0, hi0, hz0, hz1, hz2⟩ := info_parts E.hi
  have hp := RowIn.part h (i := a) (j := l.length) ha (Nat.le_refl _)
  rw [List.take_length] at hp
  have hlen : (l.drop a).length = l.length - a := by simp
  have hel : Tryz.prog.elem t = e := by simp [Program.elem, E.ht]
  refine ⟨l.drop a, _, _, rfl, fun w' => ?_, by rw [hlen]; exact hp⟩
  rw [run_sliceAt_slice _ t _ _ _ _ (by rw [hel]; exact E.ht), run_slice_l _ t A l.length c (by rw [hel]; exact E.ht) _ _ (by omega) (by omega), hel]
  simp [sizeOf, typeInfo, hi0, hz1, Result.andThen, sliced, hlen]
end
end

section
set_option linter.unusedSimpArgs false
set_option linter.unusedVariables false
open Go.RowKit Go.Lib Go.ChangeShapes Go.WideShapes Go.Joins

theorem cl_key : Tryz.prog.cellsOf 74 = 2 := by kernel_rfl
theorem cl_u64 : Tryz.prog.cellsOf 72 = 1 := by kernel_rfl

theorem u64_of_wf {n : Int} (h : (Lit.int .u64 n).wf = true) : ∃ m : Nat, n = m ∧ m < 18446744073709551616 := by
  have : 0 ≤ n ∧ n ≤ 18446744073709551615 := by simpa [Lit.wf, IntKind.min, IntKind.max, IntKind.signed, IntKind.bits] using h
  exact ⟨n.toNat, by omega, by omega⟩

def keyC (p : Ky) : List Value := [.int .u64 p.1, .int .u64 p.2]

theorem keysIn_row {w : World} {v : Value} {l : List Ky} (h : RowIn 2 keyC w v l) : KeysIn w v l := by
  obtain ⟨A, c, hv, _, h⟩ := h
  refine ⟨A, c, hv, fun hn => ?_⟩
  obtain ⟨b, o, hA, hlt, h⟩ := h hn
  refine ⟨b, o, hA, hlt, fun j u hu => ?_⟩
  obtain ⟨x, h1, h2⟩ := cellsOfRow_split (n := 2) (f := keyC) (by decide) (fun _ => rfl) l j u hu
  have := h _ x h1 _ u h2
  rw [show o + j / 2 * 2 + j % 2 = o + j by omega] at this
  exact this
theorem row_keysIn {w : World} {A : Option Addr} {m c : Nat} {l : List Ky} (h : KeysIn w (.slice A m c) l) (hc : m ≤ c) : RowIn 2 keyC w (.slice A m c) l := by
  obtain ⟨A1, c1, hv, h⟩ := h
  injection hv with e1 e2 e3
  subst e1 e2 e3
  refine ⟨_, _, rfl, hc, fun hn => ?_⟩
  obtain ⟨b, o, hA, hlt, h⟩ := h hn
  refine ⟨b, o, hA, hlt, fun k x hk j u hu => ?_⟩
  have := h _ u (cellsOfRow_at (n := 2) (f := keyC) (fun _ => rfl) l k x hk j u hu)
  rwa [← Nat.add_assoc] at this

section
variable {H : Type} {enc : TypeId × Value → H} {w : World} {base : Nat} {spare : Nat → Bool} {held : Bool}

theorem field_u64 {fuel : Nat} {t : TypeId} (ht : Tryz.prog.underlying t = some (.int .u64)) (hc : Tryz.prog.cellsOf t = 1) {cs : List Value} {xs : List (DataW H × List MemPlace)} {i o : Nat} (hi : i < xs.length) {v : Value} (hv : cs.drop o = v :: cs.drop (o + 1))
    (h : DataW.trod enc Tryz.prog w base spare held fuel t ((cs.drop o).take (Tryz.prog.cellsOf t)) = xs[i]?) : ∃ n : Nat, v = .int .u64 n ∧ n < 18446744073709551616 := by
  rw [hc, hv, List.take_succ_cons, List.take_zero, List.getElem?_eq_getElem hi] at h
  obtain ⟨n, hn, _, hw⟩ := DataW.trod_int ht h
  simp only [List.cons.injEq, and_true] at hn
  obtain ⟨m, rfl, hm⟩ := u64_of_wf hw
  exact ⟨m, hn, hm⟩

set_option maxRecDepth 100000 in
theorem key_reads {fuel : Nat} {cs : List Value} {x : DataW H × List MemPlace} (h : DataW.trod enc Tryz.prog w base spare held fuel 74 cs = some x) :
    ∃ p : Ky, p.ok ∧ cs = keyC p := by
  obtain ⟨xs, n, _, _, hl, hx, hf⟩ := DataW.trod_struct Tryz.underlying74 h
  rw [cl_key] at hl
  replace hx : xs.length = 2 := hx
  match cs, hl with
  | [a0, a1], _ =>
    obtain ⟨n0, rfl, k0⟩ := field_u64 Tryz.underlying72 cl_u64 (i := 0) (by omega) (o := 0) rfl (hf 0 _ rfl)
    obtain ⟨n1, rfl, k1⟩ := field_u64 Tryz.underlying72 cl_u64 (i := 1) (by omega) (o := 1) rfl (hf 1 _ rfl)
    exact ⟨(n0, n1), ⟨k0, k1⟩, rfl⟩

end
end

section
set_option linter.unusedSimpArgs false
set_option linter.unusedVariables false
open Go.Shelf
end

section
set_option linter.unusedSimpArgs false
set_option linter.unusedVariables false
open Go.RowKit Go.Lib Go.Sort

section
variable {α : Type} [Inhabited α] {f : α → List Value} {n : Nat}

theorem flat_row (hf : ∀ x, (f x).length = n) (hn : 0 < n) (l : List α) : flatK f n l.toArray = (cellsOfRow f l).toArray := by
  refine ext_get! (by simp [cellsOfRow_len hf]) fun t ht => ?_
  have ht' : t < l.length * n := by simpa using ht
  rw [get_flatK _ _ _ t (by simpa using ht')]
  have hk : t / n < l.length := by rw [Nat.div_lt_iff_lt_mul hn]; exact ht'
  have hm : t % n < (f l[t / n]).length := by rw [hf]; exact Nat.mod_lt _ hn
  have hlt : t < (cellsOfRow f l).length := by rw [cellsOfRow_len hf]; exact ht'
  have h := cellsOfRow_at hf l (t / n) l[t / n] (List.getElem?_eq_getElem hk) (t % n) _ (List.getElem?_eq_getElem hm)
  rw [show t / n * n + t % n = t by rw [Nat.mul_comm]; exact Nat.div_add_mod t n] at h
  have e1 : (cellsOfRow f l).toArray[t]! = (f l[t / n])[t % n] := by
    rw [getElem!_pos _ t (by simpa using hlt)]
    have := (List.getElem?_eq_some_iff.1 h).2
    simpa using this
  rw [e1]
  have e2 : l.toArray[t / n]! = l[t / n] := by rw [getElem!_pos _ _ (by simpa using hk)]; simp
  rw [e2]
  exact getElem!_pos (f l[t / n]) (t % n) hm

theorem holdsK_own (hf : ∀ x, (f x).length = n) (hn : 0 < n) {w : World} {base g cap : Nat} {e : TypeId} {l : List α} (h : w.ownsRow base e n (.slice (some ⟨g, 0, none⟩) l.length cap) l.length (cellsOfRow f l)) :
    HoldsK f n w g 0 l.toArray := by
  unfold HoldsK
  rw [flat_row hf hn]
  intro j hj
  have hj' : j < (cellsOfRow f l).length := by simpa using hj
  have hjl := hj'
  rw [cellsOfRow_len hf] at hjl
  have hc := h.cellAt j hjl
  rcases h.2 with ⟨hv, _⟩ | ⟨g', cap', cur, hv, _, hg, _⟩
  · cases hv
  · injection hv with e1 e2 e3
    injection e1 with e1
    injection e1 with e1
    subst e1
    refine ⟨?_, Go.Joins.unfrozen_of_block hg (0 + j)⟩
    rw [Nat.zero_add, hc, List.getElem?_eq_getElem hj', getElem!_pos _ j hj]
    simp

theorem take_put (F : List Value) (c : Array Value) (h : F.length ≤ c.size) : (putCells id 0 F.toArray c).toList.take F.length = F := by
  apply List.ext_getElem?
  intro i
  rw [List.getElem?_take]
  by_cases hi : i < F.length
  · rw [if_pos hi, Array.getElem?_toList, putCells, Array.getElem?_mapIdx, Array.getElem?_eq_getElem (by omega), Option.map_some, if_pos ⟨Nat.zero_le _, by simpa using hi⟩, Nat.sub_zero, List.getElem?_eq_getElem hi]
    simp [hi]
  · rw [if_neg hi, List.getElem?_eq_none (by omega)]

theorem putRow_heap {w : World} {g : Nat} {cur : Array Value} {e : TypeId} {fr : Nat × Nat} (F : Array Value) (hb : w.heap[g]? = some (.cells cur e fr)) :
    (putRow id w g 0 F).heap[g]? = some (.cells (putCells id 0 F cur) e fr) := by
  simp only [putRow, mapBlock, Array.getElem?_modify, if_pos]
  rw [hb]
  rfl
theorem putRow_other {w : World} {g k : Nat} (F : Array Value) (h : k ≠ g) : (putRow id w g 0 F).heap[k]? = w.heap[k]? := by
  simp only [putRow, mapBlock, Array.getElem?_modify, if_neg (Ne.symm h)]

/-- Behind a turning: the same slice owns what was laid. -/
theorem own_putRowK (hf : ∀ x, (f x).length = n) (hn : 0 < n) {w : World} {base g cap k : Nat} {e : TypeId} {l m : List α} (h : w.ownsRow base e n (.slice (some ⟨g, 0, none⟩) l.length cap) l.length (cellsOfRow f l)) (hm : m.length = l.length) (os : Array Obj) :
    (grow (putRowK f n (Sort.ahead w k) g 0 m.toArray) os).ownsRow base e n (.slice (some ⟨g, 0, none⟩) m.length cap) m.length (cellsOfRow f m) ∧ w.grownBy (grow (putRowK f n (Sort.ahead w k) g 0 m.toArray) os) (some g) := by
  rcases h.2 with ⟨hv, _⟩ | ⟨g', cap', cur, hv, hbase, hg, h1, h2, h3, h4⟩
  · cases hv
  · injection hv with e1 e2 e3
    injection e1 with e1
    injection e1 with e1
    subst e1 e3
    have hglt : g < w.heap.size := (Array.getElem?_eq_some_iff.1 hg).1
    unfold putRowK
    rw [flat_row hf hn]
    have hsz : (putRow id (Sort.ahead w k) g 0 (cellsOfRow f m).toArray).heap.size = w.heap.size := by simp [putRow, mapBlock, Sort.ahead]
    have hblk : (grow (putRow id (Sort.ahead w k) g 0 (cellsOfRow f m).toArray) os).heap[g]? = some (.cells (putCells id 0 (cellsOfRow f m).toArray cur) e (0, 0)) := by
      rw [heap_grow_old _ _ (by rw [hsz]; exact hglt)]
      exact putRow_heap (w := Sort.ahead w k) _ hg
    have hle : (cellsOfRow f m).length ≤ cur.size := by
      rw [cellsOfRow_len hf, hm, h3]
      exact Nat.mul_le_mul_right _ h1
    refine ⟨⟨cellsOfRow_len hf m, .inr ⟨g, cap, _, rfl, hbase, hblk, by omega, h2, by simp [putCells, h3], ?_⟩⟩, ⟨rfl, rfl, rfl, by simp only [grow, Array.size_append, hsz]; omega, fun j hj hne => ?_⟩⟩
    · have := take_put (cellsOfRow f m) cur hle
      rwa [cellsOfRow_len hf] at this
    · rw [heap_grow_old _ _ (by rw [hsz]; exact hj)]
      exact putRow_other (w := Sort.ahead w k) _ (fun e => hne (by rw [e]))
end
end

end Go.Proofs.YtmniiodpbebnmaaGreat
