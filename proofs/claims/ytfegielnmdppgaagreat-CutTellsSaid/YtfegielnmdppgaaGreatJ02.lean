/- Keys in order, each once: the reference's way and the sorted one's are one; Small laws on rows of keys of the call's own; Lists of things in memory: one law for append, one for a slice's part, whether nil or not; Lists of keys as they come in; Contracts of the shelf, laid at this program (by lay-plain.mjs; numbers by name). -/
import Derived.Test.YtfegielnmdppgaaGreatJ01
import Derived.Lib.SlicesCompact
import Derived.Lib.SmallJoins
import Derived.Laws.AppendOwnNone
import Derived.OwnWalk
import Derived.Deep.AppendLies
import Derived.Shelf.SlicesQ.Reverse
namespace Go.Proofs.YtfegielnmdppgaaGreat

section
set_option linter.unusedSimpArgs false
set_option linter.unusedVariables false
open Go.RowKit Go.Lib

theorem mem_insK (x y : Ky) : ∀ l : List Ky, y ∈ insK x l ↔ y = x ∨ y ∈ l
  | [] => by simp [insK]
  | a :: l => by
    rw [insK]
    split
    · rw [List.mem_cons, mem_insK x y l, List.mem_cons]
      constructor
      · rintro (h | h | h)
        · exact .inr (.inl h)
        · exact .inl h
        · exact .inr (.inr h)
      · rintro (h | h | h)
        · exact .inr (.inl h)
        · exact .inl h
        · exact .inr (.inr h)
    · split
      · rename_i h
        subst h
        simp
      · simp

theorem ins_pair (x : Ky) : ∀ l : List Ky, l.Pairwise (fun a b => ltK a b = true) → (insK x l).Pairwise (fun a b => ltK a b = true)
  | [], _ => by simp [insK]
  | a :: l, h => by
    rw [insK]
    rw [List.pairwise_cons] at h
    split
    · rename_i h1
      rw [List.pairwise_cons]
      refine ⟨fun y hy => ?_, ins_pair x l h.2⟩
      rcases (mem_insK x y l).1 hy with rfl | hy
      · exact h1
      · exact h.1 y hy
    · rename_i h1
      split
      · exact List.pairwise_cons.2 h
      · rename_i h2
        have h3 : ltK x a = true := by
          cases h4 : ltK x a with
          | true => rfl
          | false => exact absurd (ltK_total (by simpa using h1) h4) h2
        rw [List.pairwise_cons]
        refine ⟨fun y hy => ?_, List.pairwise_cons.2 h⟩
        rcases List.mem_cons.1 hy with rfl | hy
        · exact h3
        · exact ltK_trans h3 (h.1 y hy)

theorem foldl_ins (l : List Ky) : ∀ out : List Ky, out.Pairwise (fun a b => ltK a b = true) →
    (l.foldl (fun out x => insK x out) out).Pairwise (fun a b => ltK a b = true) ∧ ∀ y, y ∈ l.foldl (fun out x => insK x out) out ↔ y ∈ out ∨ y ∈ l := by
  induction l with
  | nil => intro out h; exact ⟨h, by simp⟩
  | cons a l ih =>
    intro out h
    obtain ⟨h1, h2⟩ := ih (insK a out) (ins_pair a out h)
    refine ⟨h1, fun y => ?_⟩
    rw [List.foldl_cons, h2, mem_insK, List.mem_cons]
    constructor
    · rintro ((h | h) | h)
      · exact .inr (.inl h)
      · exact .inl h
      · exact .inr (.inr h)
    · rintro (h | h | h)
      · exact .inl (.inr h)
      · exact .inl (.inl h)
      · exact .inr h

theorem risL_pair (l : List Ky) : (risL l).Pairwise (fun a b => ltK a b = true) := (foldl_ins l [] List.Pairwise.nil).1
theorem mem_risL (l : List Ky) (y : Ky) : y ∈ risL l ↔ y ∈ l := by simpa [risL] using (foldl_ins l [] List.Pairwise.nil).2 y
theorem len_insK (x : Ky) : ∀ l : List Ky, (insK x l).length ≤ l.length + 1
  | [] => by simp [insK]
  | a :: l => by
    have := len_insK x l
    rw [insK]
    split
    · simp; omega
    · split <;> simp
theorem len_foldl (l : List Ky) : ∀ out : List Ky, (l.foldl (fun out x => insK x out) out).length ≤ out.length + l.length := by
  induction l with
  | nil => intro out; simp
  | cons a l ih =>
    intro out
    have h1 := ih (insK a out)
    have h2 := len_insK a out
    simp only [List.foldl_cons, List.length_cons]
    omega
theorem len_risL (l : List Ky) : (risL l).length ≤ l.length := by simpa [risL] using len_foldl l []

/-- Two rising lists of the same keys are one. -/
theorem pair_unique : ∀ {l m : List Ky}, l.Pairwise (fun a b => ltK a b = true) → m.Pairwise (fun a b => ltK a b = true) → (∀ y, y ∈ l ↔ y ∈ m) → l = m
  | [], [], _, _, _ => rfl
  | [], b :: m, _, _, h => absurd ((h b).2 (by simp)) (by simp)
  | a :: l, [], _, _, h => absurd ((h a).1 (by simp)) (by simp)
  | a :: l, b :: m, h1, h2, h => by
    rw [List.pairwise_cons] at h1 h2
    have e : a = b := by
      have ha := (h a).1 (by simp)
      have hb := (h b).2 (by simp)
      rcases List.mem_cons.1 ha with e | ha
      · exact e
      · rcases List.mem_cons.1 hb with e | hb
        · exact e.symm
        · have := ltK_trans (h1.1 b hb) (h2.1 a ha)
          rw [ltK_irrefl] at this
          exact absurd this (by simp)
    subst e
    congr 1
    refine pair_unique h1.2 h2.2 fun y => ?_
    have hy := h y
    simp only [List.mem_cons] at hy
    constructor
    · intro hm
      rcases hy.1 (.inr hm) with rfl | hm'
      · have := h1.1 _ hm
        rw [ltK_irrefl] at this
        exact absurd this (by simp)
      · exact hm'
    · intro hm
      rcases hy.2 (.inr hm) with rfl | hm'
      · have := h2.1 _ hm
        rw [ltK_irrefl] at this
        exact absurd this (by simp)
      · exact hm'

/-- A sorted row, cut to what is kept of it. -/
theorem compact_pair (d : Array Ky) (hs : ∀ i j, i ≤ j → j < d.size → ltK d[j]! d[i]! = false) : (compactUpTo d d.size).Pairwise (fun a b => ltK a b = true) := by
  unfold compactUpTo
  rw [List.pairwise_map]
  refine (List.Pairwise.filter _ List.pairwise_lt_range).imp_of_mem ?_
  intro i j hi hj hij
  have hj2 := List.mem_filter.1 hj
  have hjn : j < d.size := List.mem_range.1 hj2.1
  have hk : j = 0 ∨ d[j]! ≠ d[j - 1]! := by simpa [keeps] using hj2.2
  have hne : d[j]! ≠ d[j - 1]! := hk.resolve_left (by omega)
  cases h : ltK d[i]! d[j]! with
  | true => rfl
  | false =>
    have h1 := hs i j (by omega) hjn
    have e := ltK_total h h1
    have h2 := hs i (j - 1) (by omega) (by omega)
    have h3 := hs (j - 1) j (by omega) hjn
    rw [e] at h2
    exact absurd (ltK_total h3 h2) (by exact fun e => hne e)
theorem mem_compact (d : Array Ky) : ∀ i, i < d.size → d[i]! ∈ compactUpTo d d.size := by
  intro i
  induction i with
  | zero =>
    intro h
    unfold compactUpTo
    exact List.mem_map.2 ⟨0, List.mem_filter.2 ⟨List.mem_range.2 h, by simp [keeps]⟩, rfl⟩
  | succ i ih =>
    intro h
    by_cases e : d[i + 1]! = d[i]!
    · rw [e]; exact ih (by omega)
    · unfold compactUpTo
      exact List.mem_map.2 ⟨i + 1, List.mem_filter.2 ⟨List.mem_range.2 h, by simp [keeps, e]⟩, rfl⟩
theorem compact_mem (d : Array Ky) (y : Ky) : y ∈ compactUpTo d d.size ↔ y ∈ d.toList := by
  constructor
  · intro h
    unfold compactUpTo at h
    obtain ⟨i, hi, rfl⟩ := List.mem_map.1 h
    have hn := List.mem_range.1 (List.mem_filter.1 hi).1
    rw [getElem!_pos d i hn]
    exact Array.getElem_mem_toList hn
  · intro h
    obtain ⟨i, hi, rfl⟩ := List.getElem_of_mem h
    have hn : i < d.size := by simpa using hi
    have := mem_compact d i hn
    rw [getElem!_pos d i hn] at this
    simpa using this

/-- Sorted, cut: as the reference has it. -/
theorem compact_sort (l : List Ky) : compactUpTo (l.mergeSort fun x y => !ltK y x).toArray (l.mergeSort fun x y => !ltK y x).toArray.size = risL l := by
  have hp : (l.mergeSort fun x y => !ltK y x).Pairwise (fun x y => (!ltK y x) = true) := by
    refine List.pairwise_mergeSort (fun a b c h1 h2 => ?_) (fun a b => ?_) l
    · simp only [Bool.not_eq_true'] at *
      cases h : ltK c a with
      | false => rfl
      | true =>
        cases h3 : ltK a b with
        | true => exact absurd (ltK_trans h h3) (by simp [h2])
        | false =>
          have := ltK_total h3 h1
          subst this
          rw [h2] at h
          exact absurd h (by simp)
    · cases h : ltK a b with
      | true => simp [ltK_asymm h]
      | false => simp
  have hl : (l.mergeSort fun x y => !ltK y x).length = l.length := List.length_mergeSort l
  refine pair_unique (compact_pair _ ?_) (risL_pair l) fun y => ?_
  · intro i j hij hj
    rcases Nat.lt_or_ge i j with h | h
    · have hj' : j < (l.mergeSort fun x y => !ltK y x).length := by simpa using hj
      have := List.pairwise_iff_getElem.1 hp i j (by omega) hj' h
      rw [getElem!_pos (l.mergeSort fun x y => !ltK y x).toArray j hj, getElem!_pos (l.mergeSort fun x y => !ltK y x).toArray i (by omega)]
      simpa using this
    · obtain rfl : i = j := by omega
      exact ltK_irrefl _
  · rw [compact_mem, mem_risL]
    simp
end

section
set_option linter.unusedSimpArgs false
set_option linter.unusedVariables false
open Go.RowKit Go.Lib

theorem key_info : (Tryz.prog.info? 40).map (fun i => (i.zero, i.size, i.bytes)) = some (some (.agg #[.int .u64 0, .int .u64 0]), 2, 16) := by kernel_rfl
theorem grown_below {B : Nat} {a b : World} {row : Option Nat} (h : a.grownBy b row) (hB : B ≤ a.heap.size) (hr : ∀ k, row = some k → B ≤ k) : Below B a b := (Below.refl B a).grown h hB hr
theorem own_lower {w : World} {base base' : Nat} {e : TypeId} {size : Nat} {v : Value} {n : Nat} {xs : List Value} (h : w.ownsRow base e size v n xs) (hb : base' ≤ base) : w.ownsRow base' e size v n xs := by
  refine ⟨h.1, ?_⟩
  rcases h.2 with hn | ⟨g, cap, cur, hv, hg, rest⟩
  · exact .inl hn
  · exact .inr ⟨g, cap, cur, hv, Nat.le_trans hb hg, rest⟩
end

section
set_option linter.unusedSimpArgs false
set_option linter.unusedVariables false
open Go.RowKit Go.Lib

/-- A slice's type t, its elements' type e of n cells, each a thing's cells. -/
structure EltOf {α : Type} (t e : TypeId) (n bytes : Nat) (z : Value) (f : α → List Value) : Prop where
  ht : Tryz.prog.underlying t = some (.slice e)
  hi : (Tryz.prog.info? e).map (fun i => (i.zero, i.size, i.bytes)) = some (some z, n, bytes)
  hz : z.cells.size = n
  hn : 0 < n
  hb : bytes ≤ 1024
  len : ∀ x, (f x).length = n
  one : ∀ x, ∀ u ∈ f x, u.oneCell' = true

section
variable {α : Type} {t e : TypeId} {n bytes : Nat} {z : Value} {f : α → List Value}

def OwnL (f : α → List Value) (e : TypeId) (n base : Nat) (w : World) (v : Value) (l : List α) : Prop := w.ownsRow base e n v l.length (cellsOfRow f l)

theorem OwnL.row (E : EltOf t e n bytes z f) {base : Nat} {w : World} {v : Value} {l : List α} (h : OwnL f e n base w v l) : RowIn n f w v l := RowIn.own E.len h
theorem OwnL.below {base : Nat} {w w' : World} {v : Value} {l : List α} (h : OwnL f e n base w v l) (hb : Below w.heap.size w w') : OwnL f e n base w' v l := own_below h hb
theorem OwnL.lower {base base' : Nat} {w : World} {v : Value} {l : List α} (h : OwnL f e n base w v l) (hb : base' ≤ base) : OwnL f e n base' w v l := own_lower h hb
theorem OwnL.nil (base : Nat) (w : World) : OwnL f e n base w (.slice none 0 0) ([] : List α) := ⟨by simp [cellsOfRow], .inl ⟨rfl, rfl⟩⟩
theorem OwnL.form {base : Nat} {w : World} {v : Value} {l : List α} (h : OwnL f e n base w v l) : ∃ A c, v = .slice A l.length c := own_form h
theorem OwnL.lt {base : Nat} {w : World} {v : Value} {l : List α} (h : OwnL f e n base w v l) {r : Nat} (hr : v.ownBlock = some r) : base ≤ r ∧ r < w.heap.size := World.ownsRow.lt h r hr
theorem OwnL.kept {base : Nat} {w w' : World} {v : Value} {l : List α} (h : OwnL f e n base w v l) (hb : ∀ r, v.ownBlock = some r → w'.heap[r]? = w.heap[r]?) : OwnL f e n base w' v l := by
  refine ⟨h.1, ?_⟩
  rcases h.2 with hn | ⟨g, cap, cur, rfl, hg, hbk, rest⟩
  · exact .inl hn
  · exact .inr ⟨g, cap, cur, rfl, hg, (hb g rfl).trans hbk, rest⟩
theorem RowIn.form {w : World} {v : Value} {l : List α} (h : RowIn n f w v l) : ∃ A c, v = .slice A l.length c := by
  obtain ⟨A, c, hv, _⟩ := h
  exact ⟨A, c, hv⟩

/-- The one element of a literal. -/
theorem RowIn.lit (w : World) (x : α) (cs : Array Value) (T : TypeId) (B : Nat) (hB : w.heap.size = B) (hcs : f x = cs.toList) : RowIn n f (w.alloc (.cells cs T)) (.slice (some ⟨B, 0, none⟩) 1 1) [x] := by
  subst hB
  refine ⟨some ⟨w.heap.size, 0, none⟩, 1, rfl, Nat.le_refl _, fun _ => ⟨w.heap.size, 0, rfl, by simp, fun k y hk j u hu => ?_⟩⟩
  obtain rfl : k = 0 := by
    have := (List.getElem?_eq_some_iff.1 hk).1
    simp at this; omega
  obtain rfl : x = y := by simpa using hk
  rw [hcs] at hu
  rw [Nat.zero_mul, Nat.add_zero, Nat.zero_add, (startA w cs T).1 j]
  simpa using hu
/-- The elements of a literal of two. -/
theorem RowIn.lit2 (w : World) (x y : α) (cs : Array Value) (T : TypeId) (B : Nat) (hB : w.heap.size = B) (E : ∀ x, (f x).length = n) (hcs : f x ++ f y = cs.toList) : RowIn n f (w.alloc (.cells cs T)) (.slice (some ⟨B, 0, none⟩) 2 2) [x, y] := by
  subst hB
  refine ⟨some ⟨w.heap.size, 0, none⟩, 2, rfl, Nat.le_refl _, fun _ => ⟨w.heap.size, 0, rfl, by simp, fun k q hk j u hu => ?_⟩⟩
  have h1 := cellsOfRow_at E [x, y] k q hk j u hu
  rw [show cellsOfRow f [x, y] = f x ++ f y by simp [cellsOfRow], hcs] at h1
  rw [Nat.zero_add, (startA w cs T).1]
  simpa using h1
theorem OwnL.lit0 (base : Nat) (w : World) (T : TypeId) (B : Nat) (hB : w.heap.size = B) (hb : base ≤ B) : OwnL f T n base (w.alloc (.cells #[] T)) (.slice (some ⟨B, 0, none⟩) 0 0) ([] : List α) := by
  subst hB
  exact World.ownsRow_made w #[] 0 hb (Nat.zero_le _) (by simp)

theorem run_append_nil {P : Program} {w : World} (base : Nat) (t ty e : TypeId) (i : TypeInfo) (size c : Nat) (ht : P.underlying t = some (.slice e)) (hi : P.info? e = some i)
    (v : Value) (n : Nat) (xs : List Value) (hown : w.ownsRow base e size v n xs) :
    (Builtin.append_ #[t, t] ty #[v, .slice none 0 c]).run P w = .ok v w := by
  rcases hown.2 with ⟨rfl, rfl⟩ | ⟨g, cap, cur, rfl, _, _, hnc, _⟩
  · simp [Builtin.append_, run_underlying ht, sizeOf, typeInfo, hi, Builtin.lenOf, Builtin.firstCells]
  · simp [Builtin.append_, run_underlying ht, sizeOf, typeInfo, hi, Builtin.lenOf, Builtin.firstCells, hnc, storeCells]

set_option maxRecDepth 100000 in
/-- append of a list to a list of the call's own. -/
theorem run_appendL (E : EltOf t e n bytes z f) (w : World) (ty : TypeId) (base : Nat) (l m : List α) (v v2 : Value)
    (hown : OwnL f e n base w v l) (hm : RowIn n f w v2 m) (hlen : l.length + m.length ≤ 100000000) (hbase : base ≤ w.heap.size) :
    ∃ A c w', (Builtin.append_ #[t, t] ty #[v, v2]).run Tryz.prog w = .ok (.slice A (l ++ m).length c) w' ∧ OwnL f e n base w' (.slice A (l ++ m).length c) (l ++ m) ∧ w.grownBy w' v.ownBlock ∧ ((Value.slice A (l ++ m).length c).ownBlock = v.ownBlock ∨ (Value.slice A (l ++ m).length c).ownBlock = some w.heap.size) := by
  obtain ⟨i0, hi0, hz0, hz1, hz2⟩ := info_parts E.hi
  have hby := E.hb
  obtain ⟨A2, c2, rfl, hc2, hr⟩ := hm
  cases A2 with
  | none =>
    have h0 : m.length = 0 := by
      rcases Nat.eq_zero_or_pos m.length with h | h
      · exact h
      · obtain ⟨_, _, hA, _⟩ := hr h; cases hA
    obtain rfl : m = [] := List.eq_nil_of_length_eq_zero h0
    obtain ⟨A, c, rfl⟩ := own_form hown
    refine ⟨A, c, w, ?_, ?_, ⟨rfl, rfl, rfl, Nat.le_refl _, fun _ _ _ => rfl⟩, .inl ?_⟩
    · rw [List.append_nil]
      exact run_append_nil (P := Tryz.prog) (w := w) base t ty e i0 n c2 E.ht hi0 _ _ _ hown
    · rw [List.append_nil]; exact hown
    · rw [List.append_nil]
  | some ad =>
    obtain ⟨v', w', hrun, h2, h3, _, h5⟩ := run_append_own_at (P := Tryz.prog) w base t ty e i0 z n bytes E.ht hi0 hz0 hz1 hz2 E.hz E.hn v l.length (cellsOfRow f l) hown ad m.length c2 (cellsOfRow f m) (cellsOfRow_len E.len m) (fun j u hu => by
      obtain ⟨y, hy, hyu⟩ := cellsOfRow_split E.hn E.len m j u hu
      have hml : 0 < m.length := Nat.lt_of_le_of_lt (Nat.zero_le _) (List.getElem?_eq_some_iff.1 hy).1
      obtain ⟨b, o', hA, hlt, hat⟩ := hr hml
      injection hA with hA
      subst hA
      have h := hat (j / n) y hy (j % n) u hyu
      rw [add_at, ← h]
      have hd : j / n * n + j % n = j := by rw [Nat.mul_comm]; exact Nat.div_add_mod j n
      rw [Nat.add_assoc, hd]) (cellsOfRow_one E.one m) (by simp only [maxLen]; omega) (Nat.le_trans (Nat.mul_le_mul (by omega : l.length + m.length ≤ 100000000) hby) (by omega)) hbase
    have hlen2 : (l ++ m).length = l.length + m.length := by simp
    have h2' : OwnL f e n base w' v' (l ++ m) := by
      unfold OwnL
      rw [hlen2, cellsOfRow_append]
      exact h2
    obtain ⟨A, c, rfl⟩ := own_form h2'
    exact ⟨A, c, w', hrun, h2', h3, h5⟩

theorem wpList_appendL (E : EltOf t e n bytes z f) {w : World} {ops : Array Oper} {rest : List Oper} {o : Oper} {a : Act} {Q : Exit → Act → World → Prop} (hgd : o.guard = none) {s x : Operand}
    (ho : o.op = .call { callee := .builtin .append, args := #[s, x], argTypes := #[t, t] }) (base : Nat) (l m : List α) (v v2 : Value) (hs : a.eval s = v) (hx : a.eval x = v2)
    (hown : OwnL f e n base w v l) (hm : RowIn n f w v2 m) (hlen : l.length + m.length ≤ 100000000) (hbase : base ≤ w.heap.size)
    (h : ∀ (out : List α) A c w', out = l ++ m → OwnL f e n base w' (.slice A out.length c) out → w.grownBy w' v.ownBlock → ((Value.slice A out.length c).ownBlock = v.ownBlock ∨ (Value.slice A out.length c).ownBlock = some w.heap.size) → wpList Tryz.prog ops Q rest (a.put o.dst (.slice A out.length c)) w') :
    wpList Tryz.prog ops Q (o :: rest) a w := by
  refine wpList_plain hgd fun K hK => ?_
  obtain ⟨A, c, w', hrun, h2, h3, h4⟩ := run_appendL E w o.type base l m v v2 hown hm hlen hbase
  unfold Oper.wp
  simp [execOp, ho, resolve, invoke, builtin, hs, hx, hrun, Result.andThen]
  have h6 := hK _ _ (h _ A c w' rfl h2 h3 h4)
  rw [List.length_append] at h6
  exact h6

theorem step_appendL (E : EltOf t e n bytes z f) {w : World} {ops : Array Oper} {o : Oper} {a : Act} {K : Act → World → Prop} {Q : Exit → Act → World → Prop} {X : Prop} (hgd : o.guard = none) (s x : Operand)
    (ho : o.op = .call { callee := .builtin .append, args := #[s, x], argTypes := #[t, t] }) (base : Nat) (l m : List α) (v v2 : Value) (hs : a.eval s = v) (hx : a.eval x = v2)
    (hown : OwnL f e n base w v l) (hm : RowIn n f w v2 m) (hlen : l.length + m.length ≤ 100000000) (hbase : base ≤ w.heap.size)
    (h : ∀ (out : List α) A c w', out = l ++ m → OwnL f e n base w' (.slice A out.length c) out → w.grownBy w' v.ownBlock → ((Value.slice A out.length c).ownBlock = v.ownBlock ∨ (Value.slice A out.length c).ownBlock = some w.heap.size) → K (a.put o.dst (.slice A out.length c)) w') :
    if Region.wanted o (yielded ops a.tmps) = true then Oper.wp Tryz.prog o a w K Q else X := by
  have hw : Region.wanted o (yielded ops a.tmps) = true := by simp [Region.wanted, hgd]
  rw [if_pos hw]
  obtain ⟨A, c, w', hrun, h2, h3, h4⟩ := run_appendL E w o.type base l m v v2 hown hm hlen hbase
  unfold Oper.wp
  simp [execOp, ho, resolve, invoke, builtin, hs, hx, hrun, Result.andThen]
  have h6 := h _ A c w' rfl h2 h3 h4
  rw [List.length_append] at h6
  exact h6

/-- Behind an append all that lies below is as it was. -/
theorem grown_own {base : Nat} {w w' W : World} {v : Value} {l : List α} (hg : w.grownBy w' v.ownBlock) (hown : OwnL f e n base W v l) (hb : base ≤ w.heap.size) : Below base w w' :=
  grown_below hg hb (fun r hr => (hown.lt hr).1)

/-- A part of a list: what the walk's slice comes to, and what it holds. -/
theorem row_from (E : EltOf t e n bytes z f) {w : World} {A : Option Addr} {c : Nat} {l : List α} (h : RowIn n f w (.slice A l.length c) l) (a : Nat) (ha : a ≤ l.length) :
    ∃ (m : List α) (A2 : Option Addr) (c2 : Nat), m = l.drop a ∧ (∀ w' : World, (Instr.sliceAt t (.slice A l.length c) (some (.int .i64 a)) none none).run Tryz.prog w' = .ok (.slice A2 m.length c2) w') ∧ RowIn n f w (.slice A2 m.length c2) m := by
  obtain ⟨i0, hi0, hz0, hz1, hz2⟩ := info_parts E.hi
  have hp := RowIn.part h (i := a) (j := l.length) ha (Nat.le_refl _)
  rw [List.take_length] at hp
  have hlen : (l.drop a).length = l.length - a := by simp
  have hel : Tryz.prog.elem t = e := by simp [Program.elem, E.ht]
  refine ⟨l.drop a, _, _, rfl, fun w' => ?_, by rw [hlen]; exact hp⟩
  rw [run_sliceAt_slice _ t _ _ _ _ (by rw [hel]; exact E.ht), run_slice_l _ t A l.length c (by rw [hel]; exact E.ht) _ _ (by omega) (by omega), hel]
  simp [sizeOf, typeInfo, hi0, hz1, Result.andThen, sliced, hlen]
theorem row_to (E : EltOf t e n bytes z f) {w : World} {A : Option Addr} {c : Nat} {l : List α} (h : RowIn n f w (.slice A l.length c) l) (a : Nat) (ha : a ≤ l.length) :
    ∃ (m : List α) (A2 : Option Addr) (c2 : Nat), m = l.take a ∧ (∀ w' : World, (Instr.sliceAt t (.slice A l.length c) none (some (.int .i64 a)) none).run Tryz.prog w' = .ok (.slice A2 m.length c2) w') ∧ RowIn n f w (.slice A2 m.length c2) m := by
  obtain ⟨i0, hi0, hz0, hz1, hz2⟩ := info_parts E.hi
  have hcl : l.length ≤ c := by obtain ⟨_, _, hv, hc, _⟩ := h; injection hv with _ _ e3; omega
  have hp := RowIn.part h (i := 0) (j := a) (Nat.zero_le _) ha
  rw [List.drop_zero, Nat.zero_mul, Nat.sub_zero, Nat.sub_zero] at hp
  have hlen : (l.take a).length = a := by simp; omega
  have hel : Tryz.prog.elem t = e := by simp [Program.elem, E.ht]
  refine ⟨l.take a, _, _, rfl, fun w' => ?_, by rw [hlen]; exact hp⟩
  rw [run_sliceAt_slice _ t _ _ _ _ (by rw [hel]; exact E.ht), run_slice_h _ t A l.length c (by rw [hel]; exact E.ht) _ _ (by omega) (by omega), hel]
  simp [sizeOf, typeInfo, hi0, hz1, Result.andThen, sliced, hlen]
end
end

section
set_option linter.unusedSimpArgs false
set_option linter.unusedVariables false
open Go.RowKit Go.Lib Go.ChangeShapes Go.WideShapes Go.Joins

theorem cl_key : Tryz.prog.cellsOf 40 = 2 := by kernel_rfl
theorem cl_u64 : Tryz.prog.cellsOf 38 = 1 := by kernel_rfl

theorem u64_of_wf {n : Int} (h : (Lit.int .u64 n).wf = true) : ∃ m : Nat, n = m ∧ m < 18446744073709551616 := by
  have : 0 ≤ n ∧ n ≤ 18446744073709551615 := by simpa [Lit.wf, IntKind.min, IntKind.max, IntKind.signed, IntKind.bits] using h
  exact ⟨n.toNat, by omega, by omega⟩

def keyC (p : Ky) : List Value := [.int .u64 p.1, .int .u64 p.2]

theorem keysIn_row {w : World} {v : Value} {l : List Ky} (h : RowIn 2 keyC w v l) : KeysIn w v l := by
  obtain ⟨A, c, hv, _, h⟩ := h
  refine ⟨A, c, hv, fun hn => ?_⟩
  obtain ⟨b, o, hA, hlt, h⟩ := h hn
  refine ⟨b, o, hA, hlt, fun j u hu => ?_⟩
  obtain ⟨x, h1, h2⟩ := cellsOfRow_split (n := 2) (f := keyC) (by decide) (fun _ => rfl) l j u hu
  have := h _ x h1 _ u h2
  rw [show o + j / 2 * 2 + j % 2 = o + j by omega] at this
  exact this
theorem row_keysIn {w : World} {A : Option Addr} {m c : Nat} {l : List Ky} (h : KeysIn w (.slice A m c) l) (hc : m ≤ c) : RowIn 2 keyC w (.slice A m c) l := by
  obtain ⟨A1, c1, hv, h⟩ := h
  injection hv with e1 e2 e3
  subst e1 e2 e3
  refine ⟨_, _, rfl, hc, fun hn => ?_⟩
  obtain ⟨b, o, hA, hlt, h⟩ := h hn
  refine ⟨b, o, hA, hlt, fun k x hk j u hu => ?_⟩
  have := h _ u (cellsOfRow_at (n := 2) (f := keyC) (fun _ => rfl) l k x hk j u hu)
  rwa [← Nat.add_assoc] at this

section
variable {H : Type} {enc : TypeId × Value → H} {w : World} {base : Nat} {spare : Nat → Bool} {held : Bool}

theorem field_u64 {fuel : Nat} {t : TypeId} (ht : Tryz.prog.underlying t = some (.int .u64)) (hc : Tryz.prog.cellsOf t = 1) {cs : List Value} {xs : List (DataW H × List MemPlace)} {i o : Nat} (hi : i < xs.length) {v : Value} (hv : cs.drop o = v :: cs.drop (o + 1))
    (h : DataW.trod enc Tryz.prog w base spare held fuel t ((cs.drop o).take (Tryz.prog.cellsOf t)) = xs[i]?) : ∃ n : Nat, v = .int .u64 n ∧ n < 18446744073709551616 := by
  rw [hc, hv, List.take_succ_cons, List.take_zero, List.getElem?_eq_getElem hi] at h
  obtain ⟨n, hn, _, hw⟩ := DataW.trod_int ht h
  simp only [List.cons.injEq, and_true] at hn
  obtain ⟨m, rfl, hm⟩ := u64_of_wf hw
  exact ⟨m, hn, hm⟩

set_option maxRecDepth 100000 in
theorem key_reads {fuel : Nat} {cs : List Value} {x : DataW H × List MemPlace} (h : DataW.trod enc Tryz.prog w base spare held fuel 40 cs = some x) :
    ∃ p : Ky, p.ok ∧ cs = keyC p := by
  obtain ⟨xs, n, _, _, hl, hx, hf⟩ := DataW.trod_struct Tryz.underlying40 h
  rw [cl_key] at hl
  replace hx : xs.length = 2 := hx
  match cs, hl with
  | [a0, a1], _ =>
    obtain ⟨n0, rfl, k0⟩ := field_u64 Tryz.underlying38 cl_u64 (i := 0) (by omega) (o := 0) rfl (hf 0 _ rfl)
    obtain ⟨n1, rfl, k1⟩ := field_u64 Tryz.underlying38 cl_u64 (i := 1) (by omega) (o := 1) rfl (hf 1 _ rfl)
    exact ⟨(n0, n1), ⟨k0, k1⟩, rfl⟩

end
end

section
set_option linter.unusedSimpArgs false
set_option linter.unusedVariables false
open Go.Shelf
end

end Go.Proofs.YtfegielnmdppgaaGreat
