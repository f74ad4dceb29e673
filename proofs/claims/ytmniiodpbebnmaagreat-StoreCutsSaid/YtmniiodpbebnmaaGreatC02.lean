/- A list of things of one size in memory: as it comes in, as it stands, as the call's own; Sums, differences and quotients that stop at the ends: sat's, and the reference's; Numbers of 128 bits, bit by bit: the plain law; Lists of keys: in memory, in order; the reference's Less, Same; Keys in order, each once: the reference's way and the sorted one's are one; Small laws on rows of keys of the call's own. -/
import Derived.Test.YtmniiodpbebnmaaGreatC01
import Derived.Deep.Slices
import Derived.Deep.LoopGhost
import Derived.Lib.SmallJoins
import Derived.Lib.SlicesCompact
import Derived.Laws.AppendOwnNone
namespace Go.Proofs.YtmniiodpbebnmaaGreat

section
set_option linter.unusedSimpArgs false
set_option linter.unusedVariables false
open Go.RowKit Go.Lib Go.ChangeShapes Go.WideShapes Go.Joins

theorem add_at (b o i : Nat) : (Addr.mk b o none).add i = ⟨b, o + i, none⟩ := by
  unfold Addr.add
  split
  · subst_vars; rfl
  · rfl

/-- A slice that holds these things, each of n cells. -/
def RowIn {α : Type} (n : Nat) (f : α → List Value) (w : World) (v : Value) (l : List α) : Prop :=
  ∃ A c, v = .slice A l.length c ∧ l.length ≤ c ∧ (0 < l.length → ∃ b o, A = some ⟨b, o, none⟩ ∧ b < w.heap.size ∧ ∀ k x, l[k]? = some x → ∀ j u, (f x)[j]? = some u → w.cell? ⟨b, o + k * n + j, none⟩ = some u)

theorem RowIn.below {α : Type} {n : Nat} {f : α → List Value} {w w' : World} {v : Value} {l : List α} (h : RowIn n f w v l) (hb : Below w.heap.size w w') : RowIn n f w' v l := by
  obtain ⟨A, c, hv, hc, h⟩ := h
  refine ⟨A, c, hv, hc, fun hn => ?_⟩
  obtain ⟨b, o, hA, hlt, h⟩ := h hn
  exact ⟨b, o, hA, Nat.lt_of_lt_of_le hlt hb.size, fun k x hk j u hu => (hb.cell (p := ⟨b, _, none⟩) hlt).trans (h k x hk j u hu)⟩

theorem RowIn.nil {α : Type} {n : Nat} {f : α → List Value} {w : World} {A : Option Addr} {c : Nat} : RowIn n f w (.slice A 0 c) ([] : List α) :=
  ⟨A, c, rfl, Nat.zero_le _, fun h => absurd h (Nat.lt_irrefl _)⟩

/-- The cells of the element at a place. -/
theorem RowIn.at_ {α : Type} {n : Nat} {f : α → List Value} {w : World} {A : Option Addr} {m c : Nat} {l : List α} (h : RowIn n f w (.slice A m c) l) {k : Nat} (hk : k < l.length) :
    ∃ b o, A = some ⟨b, o, none⟩ ∧ b < w.heap.size ∧ ∀ j u, (f l[k])[j]? = some u → w.cell? ⟨b, o + k * n + j, none⟩ = some u := by
  obtain ⟨A1, c1, hv, _, h⟩ := h
  injection hv with e1 e2 e3
  subst e1
  obtain ⟨b, o, hA, hlt, h⟩ := h (by omega)
  exact ⟨b, o, hA, hlt, h k l[k] (List.getElem?_eq_getElem hk)⟩

/-- All the elements' cells. -/
def cellsOfRow {α : Type} (f : α → List Value) (l : List α) : List Value := l.flatMap f
theorem cellsOfRow_cons {α : Type} (f : α → List Value) (x : α) (l : List α) : cellsOfRow f (x :: l) = f x ++ cellsOfRow f l := rfl
theorem cellsOfRow_append {α : Type} (f : α → List Value) (l m : List α) : cellsOfRow f (l ++ m) = cellsOfRow f l ++ cellsOfRow f m := by simp [cellsOfRow]
theorem cellsOfRow_len {α : Type} {f : α → List Value} {n : Nat} (hf : ∀ x, (f x).length = n) (l : List α) : (cellsOfRow f l).length = l.length * n := by
  induction l with
  | nil => simp [cellsOfRow]
  | cons a l ih => rw [cellsOfRow_cons, List.length_append, ih, hf, List.length_cons, Nat.succ_mul]; omega
theorem cellsOfRow_at {α : Type} {f : α → List Value} {n : Nat} (hf : ∀ x, (f x).length = n) (l : List α) : ∀ (k : Nat) (x : α), l[k]? = some x → ∀ j u, (f x)[j]? = some u → (cellsOfRow f l)[k * n + j]? = some u := by
  induction l with
  | nil => intro k x h; simp at h
  | cons a l ih =>
    intro k x h j u hu
    cases k with
    | zero =>
      simp at h; subst h
      rw [cellsOfRow_cons, Nat.zero_mul, Nat.zero_add, List.getElem?_append_left (List.getElem?_eq_some_iff.1 hu).1, hu]
    | succ k =>
      simp at h
      rw [cellsOfRow_cons, List.getElem?_append_right (by rw [hf, Nat.succ_mul]; omega), hf, show (k + 1) * n + j - n = k * n + j by rw [Nat.succ_mul]; omega]
      exact ih k x h j u hu
theorem cellsOfRow_one {α : Type} {f : α → List Value} (h1 : ∀ x, ∀ u ∈ f x, u.oneCell' = true) (l : List α) : ∀ u ∈ cellsOfRow f l, u.oneCell' = true := by
  intro u hu
  obtain ⟨x, _, hx⟩ := List.mem_flatMap.1 hu
  exact h1 x u hx
/-- The cell at a place of the row is an element's. -/
theorem cellsOfRow_split {α : Type} {f : α → List Value} {n : Nat} (hn : 0 < n) (hf : ∀ x, (f x).length = n) (l : List α) (j : Nat) (u : Value) (h : (cellsOfRow f l)[j]? = some u) : ∃ x, l[j / n]? = some x ∧ (f x)[j % n]? = some u := by
  have hj := (List.getElem?_eq_some_iff.1 h).1
  rw [cellsOfRow_len hf] at hj
  have hk : j / n < l.length := by rw [Nat.div_lt_iff_lt_mul hn]; exact hj
  refine ⟨l[j / n], List.getElem?_eq_getElem hk, ?_⟩
  have hm : j % n < (f l[j / n]).length := by rw [hf]; exact Nat.mod_lt _ hn
  have := cellsOfRow_at hf l (j / n) l[j / n] (List.getElem?_eq_getElem hk) (j % n) _ (List.getElem?_eq_getElem hm)
  rw [show j / n * n + j % n = j by rw [Nat.mul_comm]; exact Nat.div_add_mod j n, h] at this
  rw [List.getElem?_eq_getElem hm, this]

/-- A row of the call's own, read. -/
theorem RowIn.own {α : Type} {n : Nat} {f : α → List Value} (hf : ∀ x, (f x).length = n) {w : World} {base : Nat} {e : TypeId} {v : Value} {l : List α} (h : w.ownsRow base e n v l.length (cellsOfRow f l)) : RowIn n f w v l := by
  rcases h.2 with ⟨hv, h0⟩ | ⟨g, cap, cur, hv, _, _, hc', _⟩
  · obtain rfl : l = [] := List.eq_nil_of_length_eq_zero h0
    rw [hv]
    exact RowIn.nil
  · refine ⟨some ⟨g, 0, none⟩, cap, hv, hc', fun hn => ⟨g, 0, rfl, (h.lt g (by rw [hv]; rfl)).2, fun k x hk j u hu => ?_⟩⟩
    have hat := cellsOfRow_at hf l k x hk j u hu
    have hj := (List.getElem?_eq_some_iff.1 hat).1
    rw [cellsOfRow_len hf] at hj
    have hkl := (List.getElem?_eq_some_iff.1 hk).1
    subst hv
    rw [Nat.zero_add, h.cellAt (k * n + j) hj, hat]

/-- A part of a slice. -/
theorem RowIn.part {α : Type} {n : Nat} {f : α → List Value} {w : World} {A : Option Addr} {m c : Nat} {l : List α} (h : RowIn n f w (.slice A m c) l) {i j : Nat} (hij : i ≤ j) (hj : j ≤ l.length) :
    RowIn n f w (.slice (if c = i then A else A.map (·.add (i * n))) (j - i) (c - i)) ((l.take j).drop i) := by
  obtain ⟨A1, c1, hv, hc, h⟩ := h
  injection hv with e1 e2 e3
  subst e1 e2 e3
  have hlen : ((l.take j).drop i).length = j - i := by simp; omega
  refine ⟨_, c - i, by rw [hlen], by omega, fun hn => ?_⟩
  rw [hlen] at hn
  obtain ⟨b, o, rfl, hlt, h⟩ := h (by omega)
  rw [if_neg (by omega)]
  refine ⟨b, o + i * n, by rw [Option.map_some, add_at], hlt, fun k x hk t u hu => ?_⟩
  rw [List.getElem?_drop, List.getElem?_take] at hk
  split at hk
  · have := h (i + k) x hk t u hu
    rw [Nat.add_mul] at this
    rw [show o + i * n + k * n + t = o + (i * n + k * n) + t by omega]
    exact this
  · cases hk

section
variable {H : Type} {enc : TypeId × Value → H} {P : Program} {w : World} {base : Nat} {spare : Nat → Bool} {held : Bool}

theorem cells_first {a : Addr} {n : Nat} {cs : List Value} (h : w.cells? base a n = some cs) (hn : 0 < n) : a.spot = none ∧ a.block < w.heap.size := by
  obtain ⟨_, hl, hc⟩ := World.cells?_some h
  have h0 := hc 0 hn
  rw [List.getElem?_eq_getElem (by omega)] at h0
  have ha : a.add 0 = a := rfl
  rw [ha] at h0
  exact ⟨World.cell?_spot h0, World.block_lt_of_cell? w _ h0⟩

/-- A slice as it comes in, opened. -/
theorem row_read {α : Type} [Inhabited α] {n : Nat} {f : α → List Value} {ok : α → Prop} {t e : TypeId} (ht : P.underlying t = some (.slice e)) (hn : P.cellsOf e = n) (hpos : 0 < n)
    (hread : ∀ fuel cs x, DataW.trod enc P w base spare held fuel e cs = some x → ∃ d, ok d ∧ cs = f d)
    {fuel : Nat} {cs : List Value} {x : DataW H × List MemPlace} (h : DataW.trod enc P w base spare held fuel t cs = some x) :
    ∃ (v : Value) (l : List α), cs = [v] ∧ l.length ≤ maxLen ∧ (∀ p ∈ l, ok p) ∧ RowIn n f w v l := by
  rcases Go.Deep.open_slice ht h with ⟨rfl, _⟩ | ⟨a, len, cap, m, fu, D, Pl, rfl, _, hlc, hcm, hm, _, hr⟩
  · exact ⟨_, [], rfl, Nat.zero_le _, fun _ h => (by simp at h), RowIn.nil⟩
  · have hlm : len ≤ m := by rw [hm]; split <;> omega
    rw [hn] at hr
    have hch : ∀ i, i < len → ∃ c : α, ok c ∧ w.cells? base (a.add (i * n)) n = some (f c) := by
      intro i hi
      obtain ⟨cs', hcs, ht⟩ := hr i (Nat.lt_of_lt_of_le hi hlm)
      obtain ⟨c, hok, rfl⟩ := hread _ _ _ ht
      exact ⟨c, hok, hcs⟩
    obtain ⟨g, hg⟩ := Go.Deep.choose_lt hch
    have hlen : ((List.range len).map g).length = len := by simp
    refine ⟨_, (List.range len).map g, rfl, by rw [hlen]; omega, fun p hp => ?_, some a, cap, by rw [hlen], by rw [hlen]; exact hlc, fun hpos' => ?_⟩
    · obtain ⟨i, hi, rfl⟩ := List.mem_map.1 hp
      exact (hg i (List.mem_range.1 hi)).1
    rw [hlen] at hpos'
    obtain ⟨b, o, s⟩ := a
    obtain ⟨hs, hb⟩ := cells_first (hg 0 hpos').2 hpos
    have hs' : s = none := by simpa [Addr.add] using hs
    subst hs'
    refine ⟨b, o, rfl, by simpa [Addr.add] using hb, fun k x hk j u hu => ?_⟩
    simp only [List.getElem?_map, List.getElem?_range] at hk
    by_cases hkl : k < len
    · simp [hkl] at hk
      subst hk
      obtain ⟨_, hl, hc⟩ := World.cells?_some (hg k hkl).2
      have hj : j < n := by have := (List.getElem?_eq_some_iff.1 hu).1; omega
      have := hc j hj
      rw [add_at, add_at] at this
      rw [this, hu]
    · simp [hkl] at hk
end
end

section
set_option linter.unusedSimpArgs false
set_option linter.unusedVariables false
open Go.RowKit Go.Lib

/-- A number, or the end that it is beyond. -/
def endsI (n : Int) : Int := if 9223372036854775807 < n then 9223372036854775807 else if n < -9223372036854775808 then -9223372036854775808 else n
theorem endsI_i64 (n : Int) : I64 (endsI n) := by
  unfold endsI I64
  split
  · omega
  · split <;> omega
def sumE : List Int → Int → Int
  | [], a => a
  | n :: l, a => sumE l (endsI (a + n))
theorem sumE_i64 : ∀ (l : List Int) (a : Int), I64 a → I64 (sumE l a)
  | [], a, h => h
  | n :: l, a, h => sumE_i64 l _ (endsI_i64 _)
theorem sumE_snoc : ∀ (l : List Int) (a n : Int), sumE (l ++ [n]) a = endsI (sumE l a + n)
  | [], a, n => rfl
  | m :: l, a, n => sumE_snoc l _ n
def nmC (n : Int) : List Value := [.int .i64 n]
theorem i64_0 : I64 0 := by unfold I64; omega

set_option maxRecDepth 100000 in
set_option maxHeartbeats 1000000 in
theorem satAdd_any (a b : Int) (w : World) (ha : I64 a) (hb : I64 b) :
    Calls Tryz.prog 240 #[.int .i64 a, .int .i64 b] w fun e w' => e = .returned (.int .i64 (endsI (a + b))) ∧ w = w' := by
  obtain ⟨a1, a2⟩ := ha
  obtain ⟨b1, b2⟩ := hb
  go_enter Tryz.func240, Tryz.ntmps240
  go_wp2
  all_goals
    go_ret
    refine ⟨ret_int ?_, rfl⟩
    (try unfold wrap64 at *)
    unfold endsI
    repeat' split
    all_goals omega
set_option maxRecDepth 100000 in
set_option maxHeartbeats 1000000 in
theorem satBit_any (b : Bool) (w : World) :
    Calls Tryz.prog 286 #[.bool b] w fun e w' => e = .returned (.int .i64 (if b = true then 1 else 0)) ∧ w = w' := by
  cases b
  all_goals
    go_enter Tryz.func286, Tryz.ntmps286
    go_wp2
    go_ret
    exact ⟨rfl, rfl⟩
theorem sub_ends {a b : Int} (ha : I64 a) (hb : I64 b) (h : b ≠ -9223372036854775808) : endsI (a + IntKind.i64.wrap (-b)) = endsI (a - b) := by
  unfold I64 at ha hb
  rw [IntKind.wrap_i64]
  congr 1
  omega
theorem sub_end {a : Int} (ha : I64 a) (q : Bool) (hq : q = decide (a < 0)) : endsI (endsI (a + 9223372036854775807) + if q = true then 1 else 0) = endsI (a - -9223372036854775808) := by
  subst hq
  unfold I64 at ha
  by_cases h : a < 0
  · simp only [h, decide_true, if_true]
    unfold endsI
    repeat' split
    all_goals omega
  · simp only [h, decide_false]
    unfold endsI
    simp only [Bool.false_eq_true, if_false]
    repeat' split
    all_goals omega
end

section
set_option linter.unusedSimpArgs false
set_option linter.unusedVariables false
open Go.RowKit Go.Lib

theorem bit_nat (n i : Nat) : (n.testBit i).toNat = n / 2 ^ i % 2 := by
  rw [Nat.testBit_eq_decide_div_mod_eq]
  have h := Nat.mod_two_eq_zero_or_one (n / 2 ^ i)
  rcases h with h | h <;> simp [h]
theorem top_bit (n i : Nat) : n / 2 ^ i = 2 * (n / 2 ^ (i + 1)) + (n.testBit i).toNat := by
  rw [bit_nat, Nat.pow_succ, ← Nat.div_div_eq_div_mul]
  omega
/-- The sum of what is above 0. -/
def totN : List Int → Nat
  | [] => 0
  | n :: l => n.toNat + totN l
theorem totN_append : ∀ a b : List Int, totN (a ++ b) = totN a + totN b
  | [], b => by simp [totN]
  | n :: a, b => by simp [totN, totN_append a b]; omega
theorem totN_le {l : List Int} (h : ∀ n ∈ l, n ≤ 9223372036854775807) : totN l ≤ l.length * 9223372036854775807 := by
  induction l with
  | nil => simp [totN]
  | cons n l ih =>
    have h1 := h n (by simp)
    have h2 := ih (fun m hm => h m (by simp [hm]))
    simp only [totN, List.length_cons]
    omega
/-- A sum by a number, rounded up. -/
def meanN (l : List Int) : Nat := if l = [] then 0 else (totN l + (l.length - 1)) / l.length
theorem meanN_le {l : List Int} (h : ∀ n ∈ l, n ≤ 9223372036854775807) : meanN l ≤ 9223372036854775807 := by
  unfold meanN
  split
  · omega
  · rename_i hne
    have hp : 0 < l.length := List.length_pos_iff.2 hne
    have := totN_le h
    apply Nat.le_of_lt_succ
    rw [Nat.div_lt_iff_lt_mul hp]
    rw [Nat.mul_comm] at this
    generalize l.length = n at *
    have e : (9223372036854775807 + 1) * n = 9223372036854775807 * n + n := by omega
    rw [e]
    omega
end

section
set_option linter.unusedSimpArgs false
set_option linter.unusedVariables false
open Go.RowKit Go.Lib

abbrev Ky := Nat × Nat
def Ky.ok (p : Ky) : Prop := p.1 < 18446744073709551616 ∧ p.2 < 18446744073709551616
def ltK (p q : Ky) : Bool := if p.1 = q.1 then decide (p.2 < q.2) else decide (p.1 < q.1)

/-! ### Order -/
theorem ltK_irrefl (p : Ky) : ltK p p = false := by simp [ltK]
theorem ltK_trans {p q r : Ky} (h1 : ltK p q = true) (h2 : ltK q r = true) : ltK p r = true := by
  simp only [ltK] at *
  split at h1 <;> split at h2 <;> split <;> simp at * <;> omega
theorem ltK_total {p q : Ky} (h1 : ltK p q = false) (h2 : ltK q p = false) : p = q := by
  obtain ⟨a, b⟩ := p
  obtain ⟨c, d⟩ := q
  simp only [ltK] at *
  split at h1 <;> split at h2 <;> simp at * <;> omega
theorem ltK_asymm {p q : Ky} (h : ltK p q = true) : ltK q p = false := by
  cases h2 : ltK q p with
  | false => rfl
  | true => exact absurd (ltK_trans h h2) (by simp [ltK_irrefl])

/-- A key is laid into its place. -/
def insK (x : Ky) : List Ky → List Ky
  | [] => [x]
  | a :: l => if ltK a x then a :: insK x l else if a = x then a :: l else x :: a :: l
/-- Keys in order, each once, as the reference makes them. -/
def risL (l : List Ky) : List Ky := l.foldl (fun out x => insK x out) []

/-! ### The cells of keys -/
def cellsK (l : List Ky) : List Value := l.flatMap fun p => [.int .u64 p.1, .int .u64 p.2]
theorem cellsK_cons (p : Ky) (l : List Ky) : cellsK (p :: l) = .int .u64 p.1 :: .int .u64 p.2 :: cellsK l := rfl
theorem cellsK_len (l : List Ky) : (cellsK l).length = l.length * 2 := by
  induction l with
  | nil => rfl
  | cons a l ih => rw [cellsK_cons]; simp only [List.length_cons, ih]; omega
theorem cellsK_at (l : List Ky) : ∀ (i : Nat) (p : Ky), l[i]? = some p → (cellsK l)[i * 2]? = some (.int .u64 p.1) ∧ (cellsK l)[i * 2 + 1]? = some (.int .u64 p.2) := by
  induction l with
  | nil => intro i p h; simp at h
  | cons a l ih =>
    intro i p h
    cases i with
    | zero => simp at h; subst h; exact ⟨rfl, rfl⟩
    | succ i =>
      simp at h
      obtain ⟨h1, h2⟩ := ih i p h
      rw [cellsK_cons]
      exact ⟨by rw [show (i + 1) * 2 = i * 2 + 1 + 1 by omega]; simpa using h1, by rw [show (i + 1) * 2 + 1 = i * 2 + 1 + 1 + 1 by omega]; simpa using h2⟩
/-- A slice that holds these keys. -/
def KeysIn (w : World) (v : Value) (l : List Ky) : Prop :=
  ∃ A c, v = .slice A l.length c ∧ (0 < l.length → ∃ b o, A = some ⟨b, o, none⟩ ∧ b < w.heap.size ∧ ∀ j u, (cellsK l)[j]? = some u → w.cell? ⟨b, o + j, none⟩ = some u)
theorem KeysIn.below {w w' : World} {v : Value} {l : List Ky} (h : KeysIn w v l) (hb : Below w.heap.size w w') : KeysIn w' v l := by
  obtain ⟨A, c, hv, h⟩ := h
  refine ⟨A, c, hv, fun hn => ?_⟩
  obtain ⟨b, o, hA, hlt, h⟩ := h hn
  exact ⟨b, o, hA, Nat.lt_of_lt_of_le hlt hb.size, fun j u hu => (hb.cell (p := ⟨b, _, none⟩) hlt).trans (h j u hu)⟩
theorem KeysIn.at_ {w : World} {A : Option Addr} {c n : Nat} {l : List Ky} (h : KeysIn w (.slice A n c) l) {k : Nat} (hk : k < l.length) :
    ∃ b o, A = some ⟨b, o, none⟩ ∧ b < w.heap.size ∧ w.cell? ⟨b, o + k * 2, none⟩ = some (.int .u64 (l[k]).1) ∧ w.cell? ⟨b, o + k * 2 + 1, none⟩ = some (.int .u64 (l[k]).2) := by
  obtain ⟨A1, c1, hv, h⟩ := h
  injection hv with e1 e2 e3
  subst e1
  obtain ⟨b, o, hA, hlt, h⟩ := h (by omega)
  obtain ⟨h1, h2⟩ := cellsK_at l k l[k] (List.getElem?_eq_getElem hk)
  exact ⟨b, o, hA, hlt, h _ _ h1, h _ _ h2⟩
theorem KeysIn.len {w : World} {A : Option Addr} {c n : Nat} {l : List Ky} (h : KeysIn w (.slice A n c) l) : n = l.length := by
  obtain ⟨_, _, hv, _⟩ := h
  injection hv
theorem KeysIn.own {w : World} {base : Nat} {e : TypeId} {v : Value} {l : List Ky} (h : w.ownsRow base e 2 v l.length (cellsK l)) : KeysIn w v l := by
  obtain ⟨A, c, rfl⟩ := own_form h
  refine ⟨A, c, rfl, fun hn => ?_⟩
  have h0 := h
  rcases h.2 with ⟨hv, h0⟩ | ⟨g, cap, cur, hv, _⟩
  · omega
  · injection hv with e1 e2 e3
    subst e1 e3
    refine ⟨g, 0, rfl, (h.lt g rfl).2, fun j u hu => ?_⟩
    have hj := (List.getElem?_eq_some_iff.1 hu).1
    rw [cellsK_len] at hj
    rw [Nat.zero_add, h.cellAt j hj, hu]

/-! ### The reference's Less, Same -/
end

section
set_option linter.unusedSimpArgs false
set_option linter.unusedVariables false
open Go.RowKit Go.Lib

theorem mem_insK (x y : Ky) : ∀ l : List Ky, y ∈ insK x l ↔ y = x ∨ y ∈ l
  | [] => by simp [insK]
  | a :: l => by
    rw [insK]
    split
    · rw [List.mem_cons, mem_insK x y l, List.mem_cons]
      constructor
      · rintro (h | h | h)
        · exact .inr (.inl h)
        · exact .inl h
        · exact .inr (.inr h)
      · rintro (h | h | h)
        · exact .inr (.inl h)
        · exact .inl h
        · exact .inr (.inr h)
    · split
      · rename_i h
        subst h
        simp
      · simp

theorem ins_pair (x : Ky) : ∀ l : List Ky, l.Pairwise (fun a b => ltK a b = true) → (insK x l).Pairwise (fun a b => ltK a b = true)
  | [], _ => by simp [insK]
  | a :: l, h => by
    rw [insK]
    rw [List.pairwise_cons] at h
    split
    · rename_i h1
      rw [List.pairwise_cons]
      refine ⟨fun y hy => ?_, ins_pair x l h.2⟩
      rcases (mem_insK x y l).1 hy with rfl | hy
      · exact h1
      · exact h.1 y hy
    · rename_i h1
      split
      · exact List.pairwise_cons.2 h
      · rename_i h2
        have h3 : ltK x a = true := by
          cases h4 : ltK x a with
          | true => rfl
          | false => exact absurd (ltK_total (by simpa using h1) h4) h2
        rw [List.pairwise_cons]
        refine ⟨fun y hy => ?_, List.pairwise_cons.2 h⟩
        rcases List.mem_cons.1 hy with rfl | hy
        · exact h3
        · exact ltK_trans h3 (h.1 y hy)

theorem foldl_ins (l : List Ky) : ∀ out : List Ky, out.Pairwise (fun a b => ltK a b = true) →
    (l.foldl (fun out x => insK x out) out).Pairwise (fun a b => ltK a b = true) ∧ ∀ y, y ∈ l.foldl (fun out x => insK x out) out ↔ y ∈ out ∨ y ∈ l := by
  induction l with
  | nil => intro out h; exact ⟨h, by simp⟩
  | cons a l ih =>
    intro out h
    obtain ⟨h1, h2⟩ := ih (insK a out) (ins_pair a out h)
    refine ⟨h1, fun y => ?_⟩
    rw [List.foldl_cons, h2, mem_insK, List.mem_cons]
    constructor
    · rintro ((h | h) | h)
      · exact .inr (.inl h)
      · exact .inl h
      · exact .inr (.inr h)
    · rintro (h | h | h)
      · exact .inl (.inr h)
      · exact .inl (.inl h)
      · exact .inr h

theorem risL_pair (l : List Ky) : (risL l).Pairwise (fun a b => ltK a b = true) := (foldl_ins l [] List.Pairwise.nil).1
theorem mem_risL (l : List Ky) (y : Ky) : y ∈ risL l ↔ y ∈ l := by simpa [risL] using (foldl_ins l [] List.Pairwise.nil).2 y
/-- Two rising lists of the same keys are one. -/
theorem pair_unique : ∀ {l m : List Ky}, l.Pairwise (fun a b => ltK a b = true) → m.Pairwise (fun a b => ltK a b = true) → (∀ y, y ∈ l ↔ y ∈ m) → l = m
  | [], [], _, _, _ => rfl
  | [], b :: m, _, _, h => absurd ((h b).2 (by simp)) (by simp)
  | a :: l, [], _, _, h => absurd ((h a).1 (by simp)) (by simp)
  | a :: l, b :: m, h1, h2, h => by
    rw [List.pairwise_cons] at h1 h2
    have e : a = b := by
      have ha := (h a).1 (by simp)
      have hb := (h b).2 (by simp)
      rcases List.mem_cons.1 ha with e | ha
      · exact e
      · rcases List.mem_cons.1 hb with e | hb
        · exact e.symm
        · have := ltK_trans (h1.1 b hb) (h2.1 a ha)
          rw [ltK_irrefl] at this
          exact absurd this (by simp)
    subst e
    congr 1
    refine pair_unique h1.2 h2.2 fun y => ?_
    have hy := h y
    simp only [List.mem_cons] at hy
    constructor
    · intro hm
      rcases hy.1 (.inr hm) with rfl | hm'
      · have := h1.1 _ hm
        rw [ltK_irrefl] at this
        exact absurd this (by simp)
      · exact hm'
    · intro hm
      rcases hy.2 (.inr hm) with rfl | hm'
      · have := h2.1 _ hm
        rw [ltK_irrefl] at this
        exact absurd this (by simp)
      · exact hm'
end

section
set_option linter.unusedSimpArgs false
set_option linter.unusedVariables false
open Go.RowKit Go.Lib

theorem key_info : (Tryz.prog.info? 74).map (fun i => (i.zero, i.size, i.bytes)) = some (some (.agg #[.int .u64 0, .int .u64 0]), 2, 16) := by kernel_rfl
theorem grown_below {B : Nat} {a b : World} {row : Option Nat} (h : a.grownBy b row) (hB : B ≤ a.heap.size) (hr : ∀ k, row = some k → B ≤ k) : Below B a b := (Below.refl B a).grown h hB hr
theorem own_lower {w : World} {base base' : Nat} {e : TypeId} {size : Nat} {v : Value} {n : Nat} {xs : List Value} (h : w.ownsRow base e size v n xs) (hb : base' ≤ base) : w.ownsRow base' e size v n xs := by
  refine ⟨h.1, ?_⟩
  rcases h.2 with hn | ⟨g, cap, cur, hv, hg, rest⟩
  · exact .inl hn
  · exact .inr ⟨g, cap, cur, hv, Nat.le_trans hb hg, rest⟩
end

end Go.Proofs.YtmniiodpbebnmaaGreat
