/- A world gets a name; workq's Add, walked; The reference's Has, Less, More. -/
import Derived.Test.YtfegielnmdppgaaJ01
import Derived.Test.YtfegielnmdppgaaJ18
import Derived.Test.YtfegielnmdppgaaJ08
import Derived.Test.YtfegielnmdppgaaJ04
namespace Go.Proofs.Ytfegielnmdppgaa

section
set_option linter.unusedSimpArgs false
set_option linter.unusedVariables false
open Go.RowKit Go.Lib

theorem calls_named {P : Program} {f : Nat} {args : Array Value} {w : World} {Q : Ending → World → Prop} (h : ∀ W, W = w → Calls P f args W Q) : Calls P f args w Q := h w rfl
theorem name_world {P : Program} {c : Code} {Q : Exit → Act → World → Prop} {a : Act} {w : World} (h : ∀ W, W = w → c.wp P Q a W) : c.wp P Q a w := h w rfl
theorem box_at {W w1 : World} (hb : Below W.heap.size W w1) {B : Nat} {cs : Array Value} {T : TypeId} (hB : W.heap[B]? = some (.cells cs T (0, 0))) : (∀ j, w1.cell? ⟨B, j, none⟩ = cs[j]?) ∧ (∀ j, w1.frozen? ⟨B, j, none⟩ = false) ∧ B < w1.heap.size ∧ w1.heap[B]? = some (.cells cs T (0, 0)) := by
  obtain ⟨h1, h2, h3⟩ := box_cells hb hB
  exact ⟨h1, h2, h3, (hb.block B (Array.getElem?_eq_some_iff.1 hB).1).trans hB⟩
end

section
set_option linter.unusedSimpArgs false
set_option linter.unusedVariables false
open Go.RowKit Go.Lib
open Go.ChangeMaps (setBlock)

def addQ (st : QSt) (x : KO) : QSt × Bool :=
  if st.over = true ∨ x ∈ st.dirty then (st, false) else
  if x ∈ st.busy then ({ st with dirty := st.dirty ++ [x] }, false) else ({ st with dirty := st.dirty ++ [x], back := st.back ++ [x] }, true)

def QSays (w : World) (g o : Nat) (B : Nat → Prop) (st' : QSt) (v : Value) (e : Ending) (w' : World) : Prop :=
  ∃ B', e = .returned v ∧ QIn w' g o st' B' ∧ Moves w w' g o 5 B ∧ (∀ k, B' k → B k ∨ w.heap.size ≤ k)

theorem says_below {w w' : World} {g o : Nat} {B : Nat → Prop} {st : QSt} {v : Value} {vf vb : Value} {md mb : Option Nat} (h : QAt w g o st vf vb md mb B) (hb : Below w.heap.size w w') : QSays w g o B st v (.returned v) w' :=
  ⟨B, rfl, ⟨_, _, _, _, h.below hb⟩, Moves.of_below hb h.lt, fun k hk => .inl hk⟩

theorem alloc_cells (w : World) (cs : Array Value) (T : TypeId) : ∀ W, W = w.alloc (.cells cs T) → W.heap[w.heap.size]? = some (.cells cs T (0, 0)) := fun W h => by rw [h]; exact heap_alloc_new _ _
end

section
set_option linter.unusedSimpArgs false
set_option linter.unusedVariables false
open Go.RowKit Go.Lib

theorem box_one (w : World) (x : Ky) : ∀ W, W = w.alloc (.cells #[.int .u64 x.1, .int .u64 x.2] 27) → W.cell? ⟨w.heap.size, 0, none⟩ = some (.int .u64 x.1) ∧ W.cell? ⟨w.heap.size, 1, none⟩ = some (.int .u64 x.2) ∧ W.heap.size = w.heap.size + 1 ∧ Below w.heap.size w W := by
  rintro W rfl
  exact ⟨(startA w _ _).1 0, (startA w _ _).1 1, by simp, balloc (Below.refl _ _) _⟩

/-- A list without a key. -/
def lessL (l : List Ky) (x : Ky) : List Ky := l.filter fun y => ¬ y = x
theorem lessL_hit {l : List Ky} {k : Nat} {x : Ky} (h : k < l.length) (he : l[k] = x) : lessL (l.take (k + 1)) x = lessL (l.take k) x := by
  rw [List.take_succ_eq_append_getElem h]
  simp [lessL, he]
theorem lessL_miss {l : List Ky} {k : Nat} {x : Ky} (h : k < l.length) (he : ¬ l[k] = x) : lessL (l.take (k + 1)) x = lessL (l.take k) x ++ [l[k]] := by
  rw [List.take_succ_eq_append_getElem h]
  unfold lessL
  rw [List.filter_append, List.filter_cons_of_pos (by simpa using he), List.filter_nil]

/-- A list that a call lays. -/
def LaysK (w : World) (ss : List Ky) (e : Ending) (w' : World) : Prop :=
  ∃ v, e = .returned v ∧ w'.ownsRow w.heap.size 27 2 v ss.length (cellsOfRow keyC ss) ∧ Below w.heap.size w w'

theorem keyC1 (x : Ky) : ∀ u ∈ keyC x, u.oneCell' = true := by
  intro u hu
  simp only [keyC, List.mem_cons, List.not_mem_nil, or_false] at hu
  rcases hu with rfl | rfl <;> rfl
theorem news_key (w : World) (x : Ky) (T : TypeId) (B : Nat) (hB : w.heap.size = B) : ∀ j u, (keyC x)[j]? = some u → (w.alloc (.cells #[.int .u64 x.1, .int .u64 x.2] T)).cell? ((⟨B, 0, none⟩ : Addr).add j) = some u := by
  subst hB
  exact World.news_of_block (heap_alloc_new _ _)
theorem row_snoc {w : World} {base : Nat} {e : TypeId} {v : Value} {l : List Ky} {x : Ky} (h : w.ownsRow base e 2 v (l.length + 1) (cellsOfRow keyC l ++ keyC x)) : w.ownsRow base e 2 v (l ++ [x]).length (cellsOfRow keyC (l ++ [x])) := by
  have e1 : (l ++ [x]).length = l.length + 1 := by simp
  have e2 : cellsOfRow keyC (l ++ [x]) = cellsOfRow keyC l ++ keyC x := by rw [cellsOfRow_append]; simp [cellsOfRow]
  rw [e1, e2]
  exact h
end

end Go.Proofs.Ytfegielnmdppgaa
