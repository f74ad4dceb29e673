/- Small lemmas on worlds and words that the walks of this seat share; A list of things of one size in memory: as it comes in, as it stands, as the call's own; Lists of keys: in memory, in order; the reference's Less, Same. -/
import Derived.Test.YtfegielnmdppgaaGreatRows
import Derived.WalkKit
import Derived.WalkSpells
import Derived.WalkLawsBesides
import Derived.Lib.OthersKept
import Derived.Lib.Hide
import Derived.StillTailTactics
import Derived.Deep.QuietTactic
import Derived.BigQuiet
import Derived.Deep.RegionWith
import Derived.Deep.RegionHeld3
import Derived.Deep.Slices
import Derived.Deep.LoopGhost
import Derived.Lib.SmallJoins
namespace Go.Proofs.YtfegielnmdppgaaGreat

section
set_option linter.unusedSimpArgs false
set_option linter.unusedVariables false
open Go.RowKit Go.Lib

@[go_sem] theorem setCell_drewN (w : World) (n : Nat) (a : Addr) (v : Value) : (w.drewN n).setCell a v = (w.setCell a v).drewN n := rfl

theorem bcell {W w1 : World} (hb : Below W.heap.size W w1) : (∀ b o, b < W.heap.size → w1.cell? ⟨b, o, none⟩ = W.cell? ⟨b, o, none⟩) ∧ (∀ b o, b < W.heap.size → w1.frozen? ⟨b, o, none⟩ = W.frozen? ⟨b, o, none⟩) :=
  ⟨fun b o h => hb.cell (p := ⟨b, o, none⟩) h, fun b o h => hb.frozen (p := ⟨b, o, none⟩) h⟩

theorem below_drewN {B : Nat} {a w : World} (h : Below B a w) (n : Nat) : Below B a (w.drewN n) := ⟨h.os, h.tape, h.output, h.size, h.block⟩

theorem bthen {w a b : World} (h : Below w.heap.size w a) (k : Below a.heap.size a b) : Below w.heap.size w b := h.trans (k.mono h.size)
theorem balloc {w a : World} (h : Below w.heap.size w a) (o : Obj) : Below w.heap.size w (a.alloc o) := h.alloc h.size o

/-- The cells of one block, and that nothing old has turned: at the block's making; behind a call; behind a new block. -/
theorem startA (w : World) (cs : Array Value) (T : TypeId) :
    (∀ j, (w.alloc (.cells cs T)).cell? ⟨w.heap.size, j, none⟩ = cs[j]?) ∧ Below w.heap.size w (w.alloc (.cells cs T)) ∧ w.heap.size < (w.alloc (.cells cs T)).heap.size :=
  ⟨fun j => by simp [go_sem], balloc (Below.refl _ _) _, by simp⟩
/-! ### A string's iterator, the last block, behind draws -/

/-- What the walk may use to see that the world of a memory's fact goes on. -/
@[go_sem] theorem below_alloc_s {w a : World} {o : Obj} (h : Below w.heap.size w a) : Below w.heap.size w (a.alloc o) = True := eq_true (balloc h o)
@[go_sem] theorem below_drewN_s {n : Nat} {w a : World} {k : Nat} (h : Below n w a) : Below n w (a.drewN k) = True := eq_true (below_drewN h k)
@[go_sem] theorem below_drew_s {n : Nat} {w a : World} (h : Below n w a) : Below n w a.drew = True := eq_true h.drew
@[go_sem] theorem below_setCell_s {n : Nat} {w a : World} {p : Addr} {v : Value} (h : Below n w a) (hp : n ≤ p.block) : Below n w (a.setCell p v) = True := eq_true (h.setCell hp v)
@[go_sem] theorem below_refl_s {n : Nat} {w : World} : Below n w w = True := eq_true (Below.refl n w)

/-- The cells of a block of the call's own behind a call. -/
theorem box_cells {W w1 : World} (hb : Below W.heap.size W w1) {B : Nat} {cs : Array Value} {T : TypeId} (hB : W.heap[B]? = some (.cells cs T (0, 0))) : (∀ j, w1.cell? ⟨B, j, none⟩ = cs[j]?) ∧ (∀ j, w1.frozen? ⟨B, j, none⟩ = false) ∧ B < w1.heap.size := by
  have hlt : B < W.heap.size := (Array.getElem?_eq_some_iff.1 hB).1
  have h1 := (hb.block B hlt).trans hB
  exact ⟨fun j => by simp [World.cell?, h1], fun j => by simp [World.frozen?, h1], Nat.lt_of_lt_of_le hlt hb.size⟩
theorem box_old (w : World) (o1 o2 : Obj) : ((w.alloc o1).alloc o2).heap[w.heap.size]? = some o1 := (Below.heap_alloc _ _ _ (by simp)).trans (heap_alloc_new _ _)

theorem box_new (w : World) (o1 o2 : Obj) : ((w.alloc o1).alloc o2).heap[w.heap.size + 1]? = some o2 := by
  have h := heap_alloc_new (w.alloc o1) o2
  rwa [World.size_alloc] at h

/-- A key. -/
def keyV (hi lo : Nat) : Value := .agg #[.int .u64 (hi : Nat), .int .u64 (lo : Nat)]

/-! ### Words of 64 bits -/

theorem u64_wrap (n : Nat) (h : n < 18446744073709551616) : IntKind.u64.wrap (n : Int) = (n : Int) := by
  simp only [IntKind.wrap, IntKind.signed, IntKind.bits]
  simp
  omega

theorem ret_int {k : IntKind} {a b : Int} (h : a = b) : Ending.returned (.int k a) = .returned (.int k b) := by rw [h]

theorem ret_bool {a b : Bool} (h : a = b) : Ending.returned (.bool a) = .returned (.bool b) := by rw [h]

/-! ### Rows of bytes of the call's own -/

/-- The form of an owned slice. -/
theorem own_form {w : World} {base : Nat} {e : TypeId} {size : Nat} {v : Value} {n : Nat} {xs : List Value} (h : w.ownsRow base e size v n xs) : ∃ A c, v = .slice A n c := by
  rcases h.2 with ⟨rfl, rfl⟩ | ⟨g, cap, cur, rfl, _⟩
  · exact ⟨_, _, rfl⟩
  · exact ⟨_, _, rfl⟩

theorem own_below {w w' : World} {base : Nat} {e : TypeId} {size : Nat} {v : Value} {n : Nat} {xs : List Value} (h : w.ownsRow base e size v n xs) (hb : Below w.heap.size w w') : w'.ownsRow base e size v n xs :=
  h.kept (row := none) ⟨hb.os, hb.tape, hb.output, hb.size, fun k hk _ => hb.block k hk⟩ (by cases v.ownBlock <;> simp)
end

section
set_option linter.unusedSimpArgs false
set_option linter.unusedVariables false
open Go.RowKit Go.Lib Go.ChangeShapes Go.WideShapes Go.Joins

theorem add_at (b o i : Nat) : (Addr.mk b o none).add i = ⟨b, o + i, none⟩ := by
  unfold Addr.add
  split
  · subst_vars; rfl
  · rfl

/-- A slice that holds these things, each of n cells. -/
def RowIn {α : Type} (n : Nat) (f : α → List Value) (w : World) (v : Value) (l : List α) : Prop :=
  ∃ A c, v = .slice A l.length c ∧ l.length ≤ c ∧ (0 < l.length → ∃ b o, A = some ⟨b, o, none⟩ ∧ b < w.heap.size ∧ ∀ k x, l[k]? = some x → ∀ j u, (f x)[j]? = some u → w.cell? ⟨b, o + k * n + j, none⟩ = some u)

theorem RowIn.below {α : Type} {n : Nat} {f : α → List Value} {w w' : World} {v : Value} {l : List α} (h : RowIn n f w v l) (hb : Below w.heap.size w w') : RowIn n f w' v l := by
  obtain ⟨A, c, hv, hc, h⟩ := h
  refine ⟨A, c, hv, hc, fun hn => ?_⟩
  obtain ⟨b, o, hA, hlt, h⟩ := h hn
  exact ⟨b, o, hA, Nat.lt_of_lt_of_le hlt hb.size, fun k x hk j u hu => (hb.cell (p := ⟨b, _, none⟩) hlt).trans (h k x hk j u hu)⟩

theorem RowIn.nil {α : Type} {n : Nat} {f : α → List Value} {w : World} {A : Option Addr} {c : Nat} : RowIn n f w (.slice A 0 c) ([] : List α) :=
  ⟨A, c, rfl, Nat.zero_le _, fun h => absurd h (Nat.lt_irrefl _)⟩

/-- The cells of the element at a place. -/
theorem RowIn.at_ {α : Type} {n : Nat} {f : α → List Value} {w : World} {A : Option Addr} {m c : Nat} {l : List α} (h : RowIn n f w (.slice A m c) l) {k : Nat} (hk : k < l.length) :
    ∃ b o, A = some ⟨b, o, none⟩ ∧ b < w.heap.size ∧ ∀ j u, (f l[k])[j]? = some u → w.cell? ⟨b, o + k * n + j, none⟩ = some u := by
  obtain ⟨A1, c1, hv, _, h⟩ := h
  injection hv with e1 e2 e3
  subst e1
  obtain ⟨b, o, hA, hlt, h⟩ := h (by omega)
  exact ⟨b, o, hA, hlt, h k l[k] (List.getElem?_eq_getElem hk)⟩

/-- All the elements' cells. -/
def cellsOfRow {α : Type} (f : α → List Value) (l : List α) : List Value := l.flatMap f
theorem cellsOfRow_cons {α : Type} (f : α → List Value) (x : α) (l : List α) : cellsOfRow f (x :: l) = f x ++ cellsOfRow f l := rfl
theorem cellsOfRow_append {α : Type} (f : α → List Value) (l m : List α) : cellsOfRow f (l ++ m) = cellsOfRow f l ++ cellsOfRow f m := by simp [cellsOfRow]
theorem cellsOfRow_len {α : Type} {f : α → List Value} {n : Nat} (hf : ∀ x, (f x).length = n) (l : List α) : (cellsOfRow f l).length = l.length * n := by
  induction l with
  | nil => simp [cellsOfRow]
  | cons a l ih => rw [cellsOfRow_cons, List.length_append, ih, hf, List.length_cons, Nat.succ_mul]; omega
theorem cellsOfRow_at {α : Type} {f : α → List Value} {n : Nat} (hf : ∀ x, (f x).length = n) (l : List α) : ∀ (k : Nat) (x : α), l[k]? = some x → ∀ j u, (f x)[j]? = some u → (cellsOfRow f l)[k * n + j]? = some u := by
  induction l with
  | nil => intro k x h; simp at h
  | cons a l ih =>
    intro k x h j u hu
    cases k with
    | zero =>
      simp at h; subst h
      rw [cellsOfRow_cons, Nat.zero_mul, Nat.zero_add, List.getElem?_append_left (List.getElem?_eq_some_iff.1 hu).1, hu]
    | succ k =>
      simp at h
      rw [cellsOfRow_cons, List.getElem?_append_right (by rw [hf, Nat.succ_mul]; omega), hf, show (k + 1) * n + j - n = k * n + j by rw [Nat.succ_mul]; omega]
      exact ih k x h j u hu
theorem cellsOfRow_one {α : Type} {f : α → List Value} (h1 : ∀ x, ∀ u ∈ f x, u.oneCell' = true) (l : List α) : ∀ u ∈ cellsOfRow f l, u.oneCell' = true := by
  intro u hu
  obtain ⟨x, _, hx⟩ := List.mem_flatMap.1 hu
  exact h1 x u hx
/-- The cell at a place of the row is an element's. -/
theorem cellsOfRow_split {α : Type} {f : α → List Value} {n : Nat} (hn : 0 < n) (hf : ∀ x, (f x).length = n) (l : List α) (j : Nat) (u : Value) (h : (cellsOfRow f l)[j]? = some u) : ∃ x, l[j / n]? = some x ∧ (f x)[j % n]? = some u := by
  have hj := (List.getElem?_eq_some_iff.1 h).1
  rw [cellsOfRow_len hf] at hj
  have hk : j / n < l.length := by rw [Nat.div_lt_iff_lt_mul hn]; exact hj
  refine ⟨l[j / n], List.getElem?_eq_getElem hk, ?_⟩
  have hm : j % n < (f l[j / n]).length := by rw [hf]; exact Nat.mod_lt _ hn
  have := cellsOfRow_at hf l (j / n) l[j / n] (List.getElem?_eq_getElem hk) (j % n) _ (List.getElem?_eq_getElem hm)
  rw [show j / n * n + j % n = j by rw [Nat.mul_comm]; exact Nat.div_add_mod j n, h] at this
  rw [List.getElem?_eq_getElem hm, this]

/-- A row of the call's own, read. -/
theorem RowIn.own {α : Type} {n : Nat} {f : α → List Value} (hf : ∀ x, (f x).length = n) {w : World} {base : Nat} {e : TypeId} {v : Value} {l : List α} (h : w.ownsRow base e n v l.length (cellsOfRow f l)) : RowIn n f w v l := by
  rcases h.2 with ⟨hv, h0⟩ | ⟨g, cap, cur, hv, _, _, hc', _⟩
  · obtain rfl : l = [] := List.eq_nil_of_length_eq_zero h0
    rw [hv]
    exact RowIn.nil
  · refine ⟨some ⟨g, 0, none⟩, cap, hv, hc', fun hn => ⟨g, 0, rfl, (h.lt g (by rw [hv]; rfl)).2, fun k x hk j u hu => ?_⟩⟩
    have hat := cellsOfRow_at hf l k x hk j u hu
    have hj := (List.getElem?_eq_some_iff.1 hat).1
    rw [cellsOfRow_len hf] at hj
    have hkl := (List.getElem?_eq_some_iff.1 hk).1
    subst hv
    rw [Nat.zero_add, h.cellAt (k * n + j) hj, hat]

/-- A part of a slice. -/
theorem RowIn.part {α : Type} {n : Nat} {f : α → List Value} {w : World} {A : Option Addr} {m c : Nat} {l : List α} (h : RowIn n f w (.slice A m c) l) {i j : Nat} (hij : i ≤ j) (hj : j ≤ l.length) :
    RowIn n f w (.slice (if c = i then A else A.map (·.add (i * n))) (j - i) (c - i)) ((l.take j).drop i) := by
  obtain ⟨A1, c1, hv, hc, h⟩ := h
  injection hv with e1 e2 e3
  subst e1 e2 e3
  have hlen : ((l.take j).drop i).length = j - i := by simp; omega
  refine ⟨_, c - i, by rw [hlen], by omega, fun hn => ?_⟩
  rw [hlen] at hn
  obtain ⟨b, o, rfl, hlt, h⟩ := h (by omega)
  rw [if_neg (by omega)]
  refine ⟨b, o + i * n, by rw [Option.map_some, add_at], hlt, fun k x hk t u hu => ?_⟩
  rw [List.getElem?_drop, List.getElem?_take] at hk
  split at hk
  · have := h (i + k) x hk t u hu
    rw [Nat.add_mul] at this
    rw [show o + i * n + k * n + t = o + (i * n + k * n) + t by omega]
    exact this
  · cases hk

section
variable {H : Type} {enc : TypeId × Value → H} {P : Program} {w : World} {base : Nat} {spare : Nat → Bool} {held : Bool}

theorem cells_first {a : Addr} {n : Nat} {cs : List Value} (h : w.cells? base a n = some cs) (hn : 0 < n) : a.spot = none ∧ a.block < w.heap.size := by
  obtain ⟨_, hl, hc⟩ := World.cells?_some h
  have h0 := hc 0 hn
  rw [List.getElem?_eq_getElem (by omega)] at h0
  have ha : a.add 0 = a := rfl
  rw [ha] at h0
  exact ⟨World.cell?_spot h0, World.block_lt_of_cell? w _ h0⟩

/-- A slice as it comes in, opened. -/
theorem row_read {α : Type} [Inhabited α] {n : Nat} {f : α → List Value} {ok : α → Prop} {t e : TypeId} (ht : P.underlying t = some (.slice e)) (hn : P.cellsOf e = n) (hpos : 0 < n)
    (hread : ∀ fuel cs x, DataW.trod enc P w base spare held fuel e cs = some x → ∃ d, ok d ∧ cs = f d)
    {fuel : Nat} {cs : List Value} {x : DataW H × List MemPlace} (h : DataW.trod enc P w base spare held fuel t cs = some x) :
    ∃ (v : Value) (l : List α), cs = [v] ∧ l.length ≤ maxLen ∧ (∀ p ∈ l, ok p) ∧ RowIn n f w v l := by
  rcases Go.Deep.open_slice ht h with ⟨rfl, _⟩ | ⟨a, len, cap, m, fu, D, Pl, rfl, _, hlc, hcm, hm, _, hr⟩
  · exact ⟨_, [], rfl, Nat.zero_le _, fun _ h => (by simp at h), RowIn.nil⟩
  · have hlm : len ≤ m := by rw [hm]; split <;> omega
    rw [hn] at hr
    have hch : ∀ i, i < len → ∃ c : α, ok c ∧ w.cells? base (a.add (i * n)) n = some (f c) := by
      intro i hi
      obtain ⟨cs', hcs, ht⟩ := hr i (Nat.lt_of_lt_of_le hi hlm)
      obtain ⟨c, hok, rfl⟩ := hread _ _ _ ht
      exact ⟨c, hok, hcs⟩
    obtain ⟨g, hg⟩ := Go.Deep.choose_lt hch
    have hlen : ((List.range len).map g).length = len := by simp
    refine ⟨_, (List.range len).map g, rfl, by rw [hlen]; omega, fun p hp => ?_, some a, cap, by rw [hlen], by rw [hlen]; exact hlc, fun hpos' => ?_⟩
    · obtain ⟨i, hi, rfl⟩ := List.mem_map.1 hp
      exact (hg i (List.mem_range.1 hi)).1
    rw [hlen] at hpos'
    obtain ⟨b, o, s⟩ := a
    obtain ⟨hs, hb⟩ := cells_first (hg 0 hpos').2 hpos
    have hs' : s = none := by simpa [Addr.add] using hs
    subst hs'
    refine ⟨b, o, rfl, by simpa [Addr.add] using hb, fun k x hk j u hu => ?_⟩
    simp only [List.getElem?_map, List.getElem?_range] at hk
    by_cases hkl : k < len
    · simp [hkl] at hk
      subst hk
      obtain ⟨_, hl, hc⟩ := World.cells?_some (hg k hkl).2
      have hj : j < n := by have := (List.getElem?_eq_some_iff.1 hu).1; omega
      have := hc j hj
      rw [add_at, add_at] at this
      rw [this, hu]
    · simp [hkl] at hk
end
end

section
set_option linter.unusedSimpArgs false
set_option linter.unusedVariables false
open Go.RowKit Go.Lib

abbrev Ky := Nat × Nat
def Ky.ok (p : Ky) : Prop := p.1 < 18446744073709551616 ∧ p.2 < 18446744073709551616
def ltK (p q : Ky) : Bool := if p.1 = q.1 then decide (p.2 < q.2) else decide (p.1 < q.1)

/-! ### Order -/
theorem ltK_irrefl (p : Ky) : ltK p p = false := by simp [ltK]
theorem ltK_trans {p q r : Ky} (h1 : ltK p q = true) (h2 : ltK q r = true) : ltK p r = true := by
  simp only [ltK] at *
  split at h1 <;> split at h2 <;> split <;> simp at * <;> omega
theorem ltK_total {p q : Ky} (h1 : ltK p q = false) (h2 : ltK q p = false) : p = q := by
  obtain ⟨a, b⟩ := p
  obtain ⟨c, d⟩ := q
  simp only [ltK] at *
  split at h1 <;> split at h2 <;> simp at * <;> omega
theorem ltK_asymm {p q : Ky} (h : ltK p q = true) : ltK q p = false := by
  cases h2 : ltK q p with
  | false => rfl
  | true => exact absurd (ltK_trans h h2) (by simp [ltK_irrefl])

/-- A key is laid into its place. -/
def insK (x : Ky) : List Ky → List Ky
  | [] => [x]
  | a :: l => if ltK a x then a :: insK x l else if a = x then a :: l else x :: a :: l
/-- Keys in order, each once, as the reference makes them. -/
def risL (l : List Ky) : List Ky := l.foldl (fun out x => insK x out) []

/-! ### The cells of keys -/
def cellsK (l : List Ky) : List Value := l.flatMap fun p => [.int .u64 p.1, .int .u64 p.2]
theorem cellsK_nil : cellsK [] = [] := rfl
theorem cellsK_cons (p : Ky) (l : List Ky) : cellsK (p :: l) = .int .u64 p.1 :: .int .u64 p.2 :: cellsK l := rfl
theorem cellsK_len (l : List Ky) : (cellsK l).length = l.length * 2 := by
  induction l with
  | nil => rfl
  | cons a l ih => rw [cellsK_cons]; simp only [List.length_cons, ih]; omega
theorem cellsK_one (l : List Ky) : ∀ u ∈ cellsK l, u.oneCell' = true := by
  intro u hu
  obtain ⟨p, _, h⟩ := List.mem_flatMap.1 hu
  simp at h
  rcases h with rfl | rfl <;> rfl
theorem cellsK_append (l m : List Ky) : cellsK (l ++ m) = cellsK l ++ cellsK m := by simp [cellsK]
theorem cellsK_at (l : List Ky) : ∀ (i : Nat) (p : Ky), l[i]? = some p → (cellsK l)[i * 2]? = some (.int .u64 p.1) ∧ (cellsK l)[i * 2 + 1]? = some (.int .u64 p.2) := by
  induction l with
  | nil => intro i p h; simp at h
  | cons a l ih =>
    intro i p h
    cases i with
    | zero => simp at h; subst h; exact ⟨rfl, rfl⟩
    | succ i =>
      simp at h
      obtain ⟨h1, h2⟩ := ih i p h
      rw [cellsK_cons]
      exact ⟨by rw [show (i + 1) * 2 = i * 2 + 1 + 1 by omega]; simpa using h1, by rw [show (i + 1) * 2 + 1 = i * 2 + 1 + 1 + 1 by omega]; simpa using h2⟩
theorem cellsK_take (l : List Ky) : ∀ k, (cellsK l).take (k * 2) = cellsK (l.take k) := by
  induction l with
  | nil => intro k; simp [cellsK_nil]
  | cons a l ih =>
    intro k
    cases k with
    | zero => simp [cellsK_nil]
    | succ k => rw [show (k + 1) * 2 = k * 2 + 1 + 1 by omega, cellsK_cons, List.take_succ_cons, List.take_succ_cons, ih, List.take_succ_cons, cellsK_cons]
theorem cellsK_drop (l : List Ky) : ∀ k, (cellsK l).drop (k * 2) = cellsK (l.drop k) := by
  induction l with
  | nil => intro k; simp [cellsK_nil]
  | cons a l ih =>
    intro k
    cases k with
    | zero => simp
    | succ k => rw [show (k + 1) * 2 = k * 2 + 1 + 1 by omega, cellsK_cons, List.drop_succ_cons, List.drop_succ_cons, ih, List.drop_succ_cons]

/-- A slice that holds these keys. -/
def KeysIn (w : World) (v : Value) (l : List Ky) : Prop :=
  ∃ A c, v = .slice A l.length c ∧ (0 < l.length → ∃ b o, A = some ⟨b, o, none⟩ ∧ b < w.heap.size ∧ ∀ j u, (cellsK l)[j]? = some u → w.cell? ⟨b, o + j, none⟩ = some u)
theorem KeysIn.below {w w' : World} {v : Value} {l : List Ky} (h : KeysIn w v l) (hb : Below w.heap.size w w') : KeysIn w' v l := by
  obtain ⟨A, c, hv, h⟩ := h
  refine ⟨A, c, hv, fun hn => ?_⟩
  obtain ⟨b, o, hA, hlt, h⟩ := h hn
  exact ⟨b, o, hA, Nat.lt_of_lt_of_le hlt hb.size, fun j u hu => (hb.cell (p := ⟨b, _, none⟩) hlt).trans (h j u hu)⟩
theorem KeysIn.at_ {w : World} {A : Option Addr} {c n : Nat} {l : List Ky} (h : KeysIn w (.slice A n c) l) {k : Nat} (hk : k < l.length) :
    ∃ b o, A = some ⟨b, o, none⟩ ∧ b < w.heap.size ∧ w.cell? ⟨b, o + k * 2, none⟩ = some (.int .u64 (l[k]).1) ∧ w.cell? ⟨b, o + k * 2 + 1, none⟩ = some (.int .u64 (l[k]).2) := by
  obtain ⟨A1, c1, hv, h⟩ := h
  injection hv with e1 e2 e3
  subst e1
  obtain ⟨b, o, hA, hlt, h⟩ := h (by omega)
  obtain ⟨h1, h2⟩ := cellsK_at l k l[k] (List.getElem?_eq_getElem hk)
  exact ⟨b, o, hA, hlt, h _ _ h1, h _ _ h2⟩
theorem KeysIn.len {w : World} {A : Option Addr} {c n : Nat} {l : List Ky} (h : KeysIn w (.slice A n c) l) : n = l.length := by
  obtain ⟨_, _, hv, _⟩ := h
  injection hv
theorem KeysIn.own {w : World} {base : Nat} {e : TypeId} {v : Value} {l : List Ky} (h : w.ownsRow base e 2 v l.length (cellsK l)) : KeysIn w v l := by
  obtain ⟨A, c, rfl⟩ := own_form h
  refine ⟨A, c, rfl, fun hn => ?_⟩
  have h0 := h
  rcases h.2 with ⟨hv, h0⟩ | ⟨g, cap, cur, hv, _⟩
  · omega
  · injection hv with e1 e2 e3
    subst e1 e3
    refine ⟨g, 0, rfl, (h.lt g rfl).2, fun j u hu => ?_⟩
    have hj := (List.getElem?_eq_some_iff.1 hu).1
    rw [cellsK_len] at hj
    rw [Nat.zero_add, h.cellAt j hj, hu]

/-! ### The reference's Less, Same -/
set_option maxRecDepth 100000 in
set_option maxHeartbeats 1000000 in
theorem less_any (p q : Ky) (w : World) (hp : p.ok) (hq : q.ok) :
    Calls Tryz.prog 138 #[keyV p.1 p.2, keyV q.1 q.2] w fun e w' => e = .returned (.bool (ltK p q)) ∧ Below w.heap.size w w' := by
  obtain ⟨a, b⟩ := p
  obtain ⟨c, d⟩ := q
  obtain ⟨h1, h2⟩ := hp
  obtain ⟨h3, h4⟩ := hq
  simp only at h1 h2 h3 h4 ⊢
  unfold keyV
  by_cases e1 : a = c
  · subst e1
    by_cases e3 : b < d
    · have hv : ltK (a, b) (a, d) = true := by simp [ltK, e3]
      rw [hv]
      clear hv
      go_enter Tryz.func138, Tryz.ntmps138
      go_wp2
      go_ret
      exact ⟨rfl, ((Below.refl _ _).alloc (Nat.le_refl _) _).alloc (by simp) _⟩
    · have hv : ltK (a, b) (a, d) = false := by simp [ltK, e3]
      rw [hv]
      clear hv
      go_enter Tryz.func138, Tryz.ntmps138
      go_wp2
      go_ret
      exact ⟨rfl, ((Below.refl _ _).alloc (Nat.le_refl _) _).alloc (by simp) _⟩
  · have q : ((a : Int) != (c : Int)) = true := by simp; omega
    by_cases e3 : a < c
    · have hv : ltK (a, b) (c, d) = true := by simp [ltK, e1, e3]
      rw [hv]
      clear hv
      go_enter Tryz.func138, Tryz.ntmps138
      go_wp2
      go_ret
      exact ⟨rfl, ((Below.refl _ _).alloc (Nat.le_refl _) _).alloc (by simp) _⟩
    · have hv : ltK (a, b) (c, d) = false := by simp [ltK, e1, e3]
      rw [hv]
      clear hv
      go_enter Tryz.func138, Tryz.ntmps138
      go_wp2
      go_ret
      exact ⟨rfl, ((Below.refl _ _).alloc (Nat.le_refl _) _).alloc (by simp) _⟩

def sameK (l m : List Ky) : Bool := decide (l = m)

set_option maxRecDepth 100000 in
set_option maxHeartbeats 2000000 in
theorem same_any (v u : Value) (l m : List Ky) (w : World) (hv : KeysIn w v l) (hu : KeysIn w u m) (hl : l.length ≤ maxLen) (hm : m.length ≤ maxLen) :
    Calls Tryz.prog 28 #[v, u] w fun e w' => e = .returned (.bool (sameK l m)) ∧ Below w.heap.size w w' := by
  have hl' : l.length ≤ 9223372036854775807 := hl
  have hm' : m.length ≤ 9223372036854775807 := hm
  obtain ⟨A, c, rfl, h0⟩ := id hv
  obtain ⟨B, d, rfl, h1⟩ := id hu
  clear h0 h1
  by_cases hlen : l.length = m.length
  · go_enter Tryz.func28, Tryz.ntmps28
    have HV := Lib.hid hv
    have HU := Lib.hid hu
    have HL := Lib.hid hlen
    have q : ((l.length : Int) != (m.length : Int)) = false := by simp; omega
    clear hlen hv hu
    go_wp2
    go_loopg [5] l.length (fun g s5 wr => ∃ k n : Nat, k ≤ l.length ∧ l.length - k ≤ g ∧ s5 = .int .i64 k ∧ wr = w.drewN n ∧ l.take k = m.take k)
    case atStart => exact ⟨0, 0, Nat.zero_le _, Nat.le_refl _, rfl, rfl, rfl⟩
    case round =>
      obtain ⟨k, n, hk, hg, rfl, rfl, heq⟩ := hrel
      by_cases hlt : k < l.length
      · have hlt2 : k < m.length := by have := HL.out; omega
        obtain ⟨b1, o1, rfl, hb1, c1, c2⟩ := HV.out.at_ hlt
        obtain ⟨b2, o2, rfl, hb2, c3, c4⟩ := HU.out.at_ hlt2
        have Hq := Lib.hid heq
        clear heq
        by_cases he : l[k] = m[k]
        · have heq' : l.take (k + 1) = m.take (k + 1) := by
            rw [List.take_succ_eq_append_getElem hlt, List.take_succ_eq_append_getElem hlt2, Hq.out, he]
          have Hq2 := Lib.hid heq'
          rw [he] at c1 c2
          clear heq' he
          go_wp2_with fail
          go_quiet (fail)
          go_wp2
          go_roundg (l.length - (k + 1))
          case measure => omega
          case rel => exact ⟨k + 1, _, hlt, Nat.le_refl _, by go_num, rfl, Hq2.out⟩
        · have hf : sameK l m = false := by
            simp only [sameK, decide_eq_false_iff_not]
            intro h
            subst h
            exact he rfl
          have Hf := Lib.hid hf
          by_cases h1 : (l[k]).1 = (m[k]).1
          · have h2 : (((l[k]).2 : Int) == ((m[k]).2 : Int)) = false := by
              have : (l[k]).2 ≠ (m[k]).2 := fun h2 => he (Prod.ext h1 h2)
              simp; omega
            rw [h1] at c1
            clear hf he h1
            go_wp2_with fail
            go_quiet (fail)
            go_wp2
            go_ret
            exact ⟨by rw [Hf.out]; rfl, below_drewN (below_drewN (Below.refl _ _) _) _⟩
          · have h2 : (((l[k]).1 : Int) == ((m[k]).1 : Int)) = false := by simp; omega
            clear hf he h1
            go_wp2_with fail
            go_quiet (fail)
            go_wp2
            go_ret
            exact ⟨by rw [Hf.out]; rfl, below_drewN (below_drewN (Below.refl _ _) _) _⟩
      · obtain rfl : k = l.length := by omega
        have ht : sameK l m = true := by
          rw [List.take_length, HL.out, List.take_length] at heq
          simp [sameK, heq]
        have Ht := Lib.hid ht
        clear ht heq
        go_wp2
        go_ret
        exact ⟨by rw [Ht.out]; rfl, below_drewN (Below.refl _ _) _⟩
  · have hf : sameK l m = false := by
      simp only [sameK, decide_eq_false_iff_not]
      intro h
      exact hlen (by rw [h])
    have Hf := Lib.hid hf
    have q : ((l.length : Int) != (m.length : Int)) = true := by simp; omega
    clear hf hlen hv hu
    go_enter Tryz.func28, Tryz.ntmps28
    go_wp2
    go_ret
    exact ⟨by rw [Hf.out]; rfl, Below.refl _ _⟩
end

end Go.Proofs.YtfegielnmdppgaaGreat
