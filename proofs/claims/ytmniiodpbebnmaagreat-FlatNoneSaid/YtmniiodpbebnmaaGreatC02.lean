/- Sums, differences and quotients that stop at the ends: sat's, and the reference's; Numbers of 128 bits, bit by bit: the plain law; Lists of keys: in memory, in order; the reference's Less, Same; Keys in order, each once: the reference's way and the sorted one's are one; Small laws on rows of keys of the call's own; Lists of things in memory: one law for append, one for a slice's part, whether nil or not; Lists of keys as they come in; Contracts of the shelf, laid at this program (by lay-plain.mjs; numbers by name). -/
import Derived.Test.YtmniiodpbebnmaaGreatC01
import Derived.Deep.LoopGhost
import Derived.Lib.SlicesCompact
import Derived.Lib.SmallJoins
import Derived.Laws.AppendOwnNone
import Derived.OwnWalk
import Derived.Deep.AppendLies
import Derived.Shelf.SlicesQ.Reverse
namespace Go.Proofs.YtmniiodpbebnmaaGreat

section
set_option linter.unusedSimpArgs false
set_option linter.unusedVariables false
open Go.RowKit Go.Lib

/-- A number, or the end that it is beyond. -/
def endsI (n : Int) : Int := if 9223372036854775807 < n then 9223372036854775807 else if n < -9223372036854775808 then -9223372036854775808 else n
theorem endsI_i64 (n : Int) : I64 (endsI n) := by
  unfold endsI I64
  split
  · omega
  · split <;> omega
def sumE : List Int → Int → Int
  | [], a => a
  | n :: l, a => sumE l (endsI (a + n))
theorem sumE_i64 : ∀ (l : List Int) (a : Int), I64 a → I64 (sumE l a)
  | [], a, h => h
  | n :: l, a, h => sumE_i64 l _ (endsI_i64 _)
theorem sumE_snoc : ∀ (l : List Int) (a n : Int), sumE (l ++ [n]) a = endsI (sumE l a + n)
  | [], a, n => rfl
  | m :: l, a, n => sumE_snoc l _ n
def ceilI (a b : Int) : Int := if b < 1 then 0 else if a ≤ 0 then a.tdiv b else (a - 1).tdiv b + 1
def clampI (n lo hi : Int) : Int := if n < lo ∨ hi < lo then lo else if hi < n then hi else n
def nmC (n : Int) : List Value := [.int .i64 n]
theorem i64_0 : I64 0 := by unfold I64; omega

set_option maxRecDepth 100000 in
set_option maxHeartbeats 1000000 in
theorem satAdd_any (a b : Int) (w : World) (ha : I64 a) (hb : I64 b) :
    Calls Tryz.prog 240 #[.int .i64 a, .int .i64 b] w fun e w' => e = .returned (.int .i64 (endsI (a + b))) ∧ w = w' := by
  obtain ⟨a1, a2⟩ := ha
  obtain ⟨b1, b2⟩ := hb
  go_enter Tryz.func240, Tryz.ntmps240
  go_wp2
  all_goals
    go_ret
    refine ⟨ret_int ?_, rfl⟩
    (try unfold wrap64 at *)
    unfold endsI
    repeat' split
    all_goals omega
set_option maxRecDepth 100000 in
set_option maxHeartbeats 1000000 in
theorem satBit_any (b : Bool) (w : World) :
    Calls Tryz.prog 286 #[.bool b] w fun e w' => e = .returned (.int .i64 (if b = true then 1 else 0)) ∧ w = w' := by
  cases b
  all_goals
    go_enter Tryz.func286, Tryz.ntmps286
    go_wp2
    go_ret
    exact ⟨rfl, rfl⟩
theorem sub_ends {a b : Int} (ha : I64 a) (hb : I64 b) (h : b ≠ -9223372036854775808) : endsI (a + IntKind.i64.wrap (-b)) = endsI (a - b) := by
  unfold I64 at ha hb
  rw [IntKind.wrap_i64]
  congr 1
  omega
theorem sub_end {a : Int} (ha : I64 a) (q : Bool) (hq : q = decide (a < 0)) : endsI (endsI (a + 9223372036854775807) + if q = true then 1 else 0) = endsI (a - -9223372036854775808) := by
  subst hq
  unfold I64 at ha
  by_cases h : a < 0
  · simp only [h, decide_true, if_true]
    unfold endsI
    repeat' split
    all_goals omega
  · simp only [h, decide_false]
    unfold endsI
    simp only [Bool.false_eq_true, if_false]
    repeat' split
    all_goals omega
end

section
set_option linter.unusedSimpArgs false
set_option linter.unusedVariables false
open Go.RowKit Go.Lib

theorem bit_nat (n i : Nat) : (n.testBit i).toNat = n / 2 ^ i % 2 := by
  rw [Nat.testBit_eq_decide_div_mod_eq]
  have h := Nat.mod_two_eq_zero_or_one (n / 2 ^ i)
  rcases h with h | h <;> simp [h]
theorem top_bit (n i : Nat) : n / 2 ^ i = 2 * (n / 2 ^ (i + 1)) + (n.testBit i).toNat := by
  rw [bit_nat, Nat.pow_succ, ← Nat.div_div_eq_div_mul]
  omega
/-- Which of two numbers is greater, by the highest bit that is unlike. -/
def cmpN (a b : Nat) : Int := if a = b then 0 else if a < b then -1 else 1
/-- The sum of what is above 0. -/
def totN : List Int → Nat
  | [] => 0
  | n :: l => n.toNat + totN l
theorem totN_append : ∀ a b : List Int, totN (a ++ b) = totN a + totN b
  | [], b => by simp [totN]
  | n :: a, b => by simp [totN, totN_append a b]; omega
theorem totN_le {l : List Int} (h : ∀ n ∈ l, n ≤ 9223372036854775807) : totN l ≤ l.length * 9223372036854775807 := by
  induction l with
  | nil => simp [totN]
  | cons n l ih =>
    have h1 := h n (by simp)
    have h2 := ih (fun m hm => h m (by simp [hm]))
    simp only [totN, List.length_cons]
    omega
/-- A sum by a number, rounded up. -/
def meanN (l : List Int) : Nat := if l = [] then 0 else (totN l + (l.length - 1)) / l.length
theorem meanN_le {l : List Int} (h : ∀ n ∈ l, n ≤ 9223372036854775807) : meanN l ≤ 9223372036854775807 := by
  unfold meanN
  split
  · omega
  · rename_i hne
    have hp : 0 < l.length := List.length_pos_iff.2 hne
    have := totN_le h
    apply Nat.le_of_lt_succ
    rw [Nat.div_lt_iff_lt_mul hp]
    rw [Nat.mul_comm] at this
    generalize l.length = n at *
    have e : (9223372036854775807 + 1) * n = 9223372036854775807 * n + n := by omega
    rw [e]
    omega
end

section
set_option linter.unusedSimpArgs false
set_option linter.unusedVariables false
open Go.RowKit Go.Lib

abbrev Ky := Nat × Nat
def Ky.ok (p : Ky) : Prop := p.1 < 18446744073709551616 ∧ p.2 < 18446744073709551616
def ltK (p q : Ky) : Bool := if p.1 = q.1 then decide (p.2 < q.2) else decide (p.1 < q.1)

/-! ### Order -/
theorem ltK_irrefl (p : Ky) : ltK p p = false := by simp [ltK]
theorem ltK_trans {p q r : Ky} (h1 : ltK p q = true) (h2 : ltK q r = true) : ltK p r = true := by
  simp only [ltK] at *
  split at h1 <;> split at h2 <;> split <;> simp at * <;> omega
theorem ltK_total {p q : Ky} (h1 : ltK p q = false) (h2 : ltK q p = false) : p = q := by
  obtain ⟨a, b⟩ := p
  obtain ⟨c, d⟩ := q
  simp only [ltK] at *
  split at h1 <;> split at h2 <;> simp at * <;> omega
theorem ltK_asymm {p q : Ky} (h : ltK p q = true) : ltK q p = false := by
  cases h2 : ltK q p with
  | false => rfl
  | true => exact absurd (ltK_trans h h2) (by simp [ltK_irrefl])

/-- A key is laid into its place. -/
def insK (x : Ky) : List Ky → List Ky
  | [] => [x]
  | a :: l => if ltK a x then a :: insK x l else if a = x then a :: l else x :: a :: l
/-- Keys in order, each once, as the reference makes them. -/
def risL (l : List Ky) : List Ky := l.foldl (fun out x => insK x out) []

/-! ### The cells of keys -/
def cellsK (l : List Ky) : List Value := l.flatMap fun p => [.int .u64 p.1, .int .u64 p.2]
theorem cellsK_cons (p : Ky) (l : List Ky) : cellsK (p :: l) = .int .u64 p.1 :: .int .u64 p.2 :: cellsK l := rfl
theorem cellsK_len (l : List Ky) : (cellsK l).length = l.length * 2 := by
  induction l with
  | nil => rfl
  | cons a l ih => rw [cellsK_cons]; simp only [List.length_cons, ih]; omega
theorem cellsK_at (l : List Ky) : ∀ (i : Nat) (p : Ky), l[i]? = some p → (cellsK l)[i * 2]? = some (.int .u64 p.1) ∧ (cellsK l)[i * 2 + 1]? = some (.int .u64 p.2) := by
  induction l with
  | nil => intro i p h; simp at h
  | cons a l ih =>
    intro i p h
    cases i with
    | zero => simp at h; subst h; exact ⟨rfl, rfl⟩
    | succ i =>
      simp at h
      obtain ⟨h1, h2⟩ := ih i p h
      rw [cellsK_cons]
      exact ⟨by rw [show (i + 1) * 2 = i * 2 + 1 + 1 by omega]; simpa using h1, by rw [show (i + 1) * 2 + 1 = i * 2 + 1 + 1 + 1 by omega]; simpa using h2⟩
/-- A slice that holds these keys. -/
def KeysIn (w : World) (v : Value) (l : List Ky) : Prop :=
  ∃ A c, v = .slice A l.length c ∧ (0 < l.length → ∃ b o, A = some ⟨b, o, none⟩ ∧ b < w.heap.size ∧ ∀ j u, (cellsK l)[j]? = some u → w.cell? ⟨b, o + j, none⟩ = some u)
theorem KeysIn.below {w w' : World} {v : Value} {l : List Ky} (h : KeysIn w v l) (hb : Below w.heap.size w w') : KeysIn w' v l := by
  obtain ⟨A, c, hv, h⟩ := h
  refine ⟨A, c, hv, fun hn => ?_⟩
  obtain ⟨b, o, hA, hlt, h⟩ := h hn
  exact ⟨b, o, hA, Nat.lt_of_lt_of_le hlt hb.size, fun j u hu => (hb.cell (p := ⟨b, _, none⟩) hlt).trans (h j u hu)⟩
theorem KeysIn.at_ {w : World} {A : Option Addr} {c n : Nat} {l : List Ky} (h : KeysIn w (.slice A n c) l) {k : Nat} (hk : k < l.length) :
    ∃ b o, A = some ⟨b, o, none⟩ ∧ b < w.heap.size ∧ w.cell? ⟨b, o + k * 2, none⟩ = some (.int .u64 (l[k]).1) ∧ w.cell? ⟨b, o + k * 2 + 1, none⟩ = some (.int .u64 (l[k]).2) := by
  obtain ⟨A1, c1, hv, h⟩ := h
  injection hv with e1 e2 e3
  subst e1
  obtain ⟨b, o, hA, hlt, h⟩ := h (by omega)
  obtain ⟨h1, h2⟩ := cellsK_at l k l[k] (List.getElem?_eq_getElem hk)
  exact ⟨b, o, hA, hlt, h _ _ h1, h _ _ h2⟩
theorem KeysIn.len {w : World} {A : Option Addr} {c n : Nat} {l : List Ky} (h : KeysIn w (.slice A n c) l) : n = l.length := by
  obtain ⟨_, _, hv, _⟩ := h
  injection hv
theorem KeysIn.own {w : World} {base : Nat} {e : TypeId} {v : Value} {l : List Ky} (h : w.ownsRow base e 2 v l.length (cellsK l)) : KeysIn w v l := by
  obtain ⟨A, c, rfl⟩ := own_form h
  refine ⟨A, c, rfl, fun hn => ?_⟩
  have h0 := h
  rcases h.2 with ⟨hv, h0⟩ | ⟨g, cap, cur, hv, _⟩
  · omega
  · injection hv with e1 e2 e3
    subst e1 e3
    refine ⟨g, 0, rfl, (h.lt g rfl).2, fun j u hu => ?_⟩
    have hj := (List.getElem?_eq_some_iff.1 hu).1
    rw [cellsK_len] at hj
    rw [Nat.zero_add, h.cellAt j hj, hu]

/-! ### The reference's Less, Same -/
end

section
set_option linter.unusedSimpArgs false
set_option linter.unusedVariables false
open Go.RowKit Go.Lib

theorem mem_insK (x y : Ky) : ∀ l : List Ky, y ∈ insK x l ↔ y = x ∨ y ∈ l
  | [] => by simp [insK]
  | a :: l => by
    rw [insK]
    split
    · rw [List.mem_cons, mem_insK x y l, List.mem_cons]
      constructor
      · rintro (h | h | h)
        · exact .inr (.inl h)
        · exact .inl h
        · exact .inr (.inr h)
      · rintro (h | h | h)
        · exact .inr (.inl h)
        · exact .inl h
        · exact .inr (.inr h)
    · split
      · rename_i h
        subst h
        simp
      · simp

theorem ins_pair (x : Ky) : ∀ l : List Ky, l.Pairwise (fun a b => ltK a b = true) → (insK x l).Pairwise (fun a b => ltK a b = true)
  | [], _ => by simp [insK]
  | a :: l, h => by
    rw [insK]
    rw [List.pairwise_cons] at h
    split
    · rename_i h1
      rw [List.pairwise_cons]
      refine ⟨fun y hy => ?_, ins_pair x l h.2⟩
      rcases (mem_insK x y l).1 hy with rfl | hy
      · exact h1
      · exact h.1 y hy
    · rename_i h1
      split
      · exact List.pairwise_cons.2 h
      · rename_i h2
        have h3 : ltK x a = true := by
          cases h4 : ltK x a with
          | true => rfl
          | false => exact absurd (ltK_total (by simpa using h1) h4) h2
        rw [List.pairwise_cons]
        refine ⟨fun y hy => ?_, List.pairwise_cons.2 h⟩
        rcases List.mem_cons.1 hy with rfl | hy
        · exact h3
        · exact ltK_trans h3 (h.1 y hy)

theorem foldl_ins (l : List Ky) : ∀ out : List Ky, out.Pairwise (fun a b => ltK a b = true) →
    (l.foldl (fun out x => insK x out) out).Pairwise (fun a b => ltK a b = true) ∧ ∀ y, y ∈ l.foldl (fun out x => insK x out) out ↔ y ∈ out ∨ y ∈ l := by
  induction l with
  | nil => intro out h; exact ⟨h, by simp⟩
  | cons a l ih =>
    intro out h
    obtain ⟨h1, h2⟩ := ih (insK a out) (ins_pair a out h)
    refine ⟨h1, fun y => ?_⟩
    rw [List.foldl_cons, h2, mem_insK, List.mem_cons]
    constructor
    · rintro ((h | h) | h)
      · exact .inr (.inl h)
      · exact .inl h
      · exact .inr (.inr h)
    · rintro (h | h | h)
      · exact .inl (.inr h)
      · exact .inl (.inl h)
      · exact .inr h

theorem risL_pair (l : List Ky) : (risL l).Pairwise (fun a b => ltK a b = true) := (foldl_ins l [] List.Pairwise.nil).1
theorem mem_risL (l : List Ky) (y : Ky) : y ∈ risL l ↔ y ∈ l := by simpa [risL] using (foldl_ins l [] List.Pairwise.nil).2 y
/-- Two rising lists of the same keys are one. -/
theorem pair_unique : ∀ {l m : List Ky}, l.Pairwise (fun a b => ltK a b = true) → m.Pairwise (fun a b => ltK a b = true) → (∀ y, y ∈ l ↔ y ∈ m) → l = m
  | [], [], _, _, _ => rfl
  | [], b :: m, _, _, h => absurd ((h b).2 (by simp)) (by simp)
  | a :: l, [], _, _, h => absurd ((h a).1 (by simp)) (by simp)
  | a :: l, b :: m, h1, h2, h => by
    rw [List.pairwise_cons] at h1 h2
    have e : a = b := by
      have ha := (h a).1 (by simp)
      have hb := (h b).2 (by simp)
      rcases List.mem_cons.1 ha with e | ha
      · exact e
      · rcases List.mem_cons.1 hb with e | hb
        · exact e.symm
        · have := ltK_trans (h1.1 b hb) (h2.1 a ha)
          rw [ltK_irrefl] at this
          exact absurd this (by simp)
    subst e
    congr 1
    refine pair_unique h1.2 h2.2 fun y => ?_
    have hy := h y
    simp only [List.mem_cons] at hy
    constructor
    · intro hm
      rcases hy.1 (.inr hm) with rfl | hm'
      · have := h1.1 _ hm
        rw [ltK_irrefl] at this
        exact absurd this (by simp)
      · exact hm'
    · intro hm
      rcases hy.2 (.inr hm) with rfl | hm'
      · have := h2.1 _ hm
        rw [ltK_irrefl] at this
        exact absurd this (by simp)
      · exact hm'
end

section
set_option linter.unusedSimpArgs false
set_option linter.unusedVariables false
open Go.RowKit Go.Lib

theorem key_info : (Tryz.prog.info? 74).map (fun i => (i.zero, i.size, i.bytes)) = some (some (.agg #[.int .u64 0, .int .u64 0]), 2, 16) := by kernel_rfl
theorem grown_below {B : Nat} {a b : World} {row : Option Nat} (h : a.grownBy b row) (hB : B ≤ a.heap.size) (hr : ∀ k, row = some k → B ≤ k) : Below B a b := (Below.refl B a).grown h hB hr
theorem own_lower {w : World} {base base' : Nat} {e : TypeId} {size : Nat} {v : Value} {n : Nat} {xs : List Value} (h : w.ownsRow base e size v n xs) (hb : base' ≤ base) : w.ownsRow base' e size v n xs := by
  refine ⟨h.1, ?_⟩
  rcases h.2 with hn | ⟨g, cap, cur, hv, hg, rest⟩
  · exact .inl hn
  · exact .inr ⟨g, cap, cur, hv, Nat.le_trans hb hg, rest⟩
end

section
set_option linter.unusedSimpArgs false
set_option linter.unusedVariables false
open Go.RowKit Go.Lib

/-- A slice's type t, its elements' type e of n cells, each a thing's cells. -/
structure EltOf {α : Type} (t e : TypeId) (n bytes : Nat) (z : Value) (f : α → List Value) : Prop where
  ht : Tryz.prog.underlying t = some (.slice e)
  hi : (Tryz.prog.info? e).map (fun i => (i.zero, i.size, i.bytes)) = some (some z, n, bytes)
  hz : z.cells.size = n
  hn : 0 < n
  hb : bytes ≤ 1024
  len : ∀ x, (f x).length = n
  one : ∀ x, ∀ u ∈ f x, u.oneCell' = true

section
variable {α : Type} {t e : TypeId} {n bytes : Nat} {z : Value} {f : α → List Value}

def OwnL (f : α → List Value) (e : TypeId) (n base : Nat) (w : World) (v : Value) (l : List α) : Prop := w.ownsRow base e n v l.length (cellsOfRow f l)

theorem OwnL.row (E : EltOf t e n bytes z f) {base : Nat} {w : World} {v : Value} {l : List α} (h : OwnL f e n base w v l) : RowIn n f w v l := RowIn.own E.len h
theorem OwnL.below {base : Nat} {w w' : World} {v : Value} {l : List α} (h : OwnL f e n base w v l) (hb : Below w.heap.size w w') : OwnL f e n base w' v l := own_below h hb
theorem OwnL.lower {base base' : Nat} {w : World} {v : Value} {l : List α} (h : OwnL f e n base w v l) (hb : base' ≤ base) : OwnL f e n base' w v l := own_lower h hb
theorem OwnL.nil (base : Nat) (w : World) : OwnL f e n base w (.slice none 0 0) ([] : List α) := ⟨by simp [cellsOfRow], .inl ⟨rfl, rfl⟩⟩
theorem OwnL.form {base : Nat} {w : World} {v : Value} {l : List α} (h : OwnL f e n base w v l) : ∃ A c, v = .slice A l.length c := own_form h
theorem OwnL.lt {base : Nat} {w : World} {v : Value} {l : List α} (h : OwnL f e n base w v l) {r : Nat} (hr : v.ownBlock = some r) : base ≤ r ∧ r < w.heap.size := World.ownsRow.lt h r hr
theorem OwnL.kept {base : Nat} {w w' : World} {v : Value} {l : List α} (h : OwnL f e n base w v l) (hb : ∀ r, v.ownBlock = some r → w'.heap[r]? = w.heap[r]?) : OwnL f e n base w' v l := by
  refine ⟨h.1, ?_⟩
  rcases h.2 with hn | ⟨g, cap, cur, rfl, hg, hbk, rest⟩
  · exact .inl hn
  · exact .inr ⟨g, cap, cur, rfl, hg, (hb g rfl).trans hbk, rest⟩
theorem RowIn.form {w : World} {v : Value} {l : List α} (h : RowIn n f w v l) : ∃ A c, v = .slice A l.length c := by
  obtain ⟨A, c, hv, _⟩ := h
  exact ⟨A, c, hv⟩

/-- The one element of a literal. -/
theorem RowIn.lit (w : World) (x : α) (cs : Array Value) (T : TypeId) (B : Nat) (hB : w.heap.size = B) (hcs : f x = cs.toList) : RowIn n f (w.alloc (.cells cs T)) (.slice (some ⟨B, 0, none⟩) 1 1) [x] := by
  subst hB
  refine ⟨some ⟨w.heap.size, 0, none⟩, 1, rfl, Nat.le_refl _, fun _ => ⟨w.heap.size, 0, rfl, by simp, fun k y hk j u hu => ?_⟩⟩
  obtain rfl : k = 0 := by
    have := (List.getElem?_eq_some_iff.1 hk).1
    simp at this; omega
  obtain rfl : x = y := by simpa using hk
  rw [hcs] at hu
  rw [Nat.zero_mul, Nat.add_zero, Nat.zero_add, (startA w cs T).1 j]
  simpa using hu
theorem OwnL.lit0 (base : Nat) (w : World) (T : TypeId) (B : Nat) (hB : w.heap.size = B) (hb : base ≤ B) : OwnL f T n base (w.alloc (.cells #[] T)) (.slice (some ⟨B, 0, none⟩) 0 0) ([] : List α) := by
  subst hB
  exact World.ownsRow_made w #[] 0 hb (Nat.zero_le _) (by simp)

theorem run_append_nil {P : Program} {w : World} (base : Nat) (t ty e : TypeId) (i : TypeInfo) (size c : Nat) (ht : P.underlying t = some (.slice e)) (hi : P.info? e = some i)
    (v : Value) (n : Nat) (xs : List Value) (hown : w.ownsRow base e size v n xs) :
    (Builtin.append_ #[t, t] ty #[v, .slice none 0 c]).run P w = .ok v w := by
  rcases hown.2 with ⟨rfl, rfl⟩ | ⟨g, cap, cur, rfl, _, _, hnc, _⟩
  · simp [Builtin.append_, run_underlying ht, sizeOf, typeInfo, hi, Builtin.lenOf, Builtin.firstCells]
  · simp [Builtin.append_, run_underlying ht, sizeOf, typeInfo, hi, Builtin.lenOf, Builtin.firstCells, hnc, storeCells]

set_option maxRecDepth 100000 in
/-- append of a list to a list of the call's own. -/
theorem run_appendL (E : EltOf t e n bytes z f) (w : World) (ty : TypeId) (base : Nat) (l m : List α) (v v2 : Value)
    (hown : OwnL f e n base w v l) (hm : RowIn n f w v2 m) (hlen : l.length + m.length ≤ 100000000) (hbase : base ≤ w.heap.size) :
    ∃ A c w', (Builtin.append_ #[t, t] ty #[v, v2]).run Tryz.prog w = .ok (.slice A (l ++ m).length c) w' ∧ OwnL f e n base w' (.slice A (l ++ m).length c) (l ++ m) ∧ w.grownBy w' v.ownBlock ∧ ((Value.slice A (l ++ m).length c).ownBlock = v.ownBlock ∨ (Value.slice A (l ++ m).length c).ownBlock = some w.heap.size) := by
  obtain ⟨i0, hi0, hz0, hz1, hz2⟩ := info_parts E.hi
  have hby := E.hb
  obtain ⟨A2, c2, rfl, hc2, hr⟩ := hm
  cases A2 with
  | none =>
    have h0 : m.length = 0 := by
      rcases Nat.eq_zero_or_pos m.length with h | h
      · exact h
      · obtain ⟨_, _, hA, _⟩ := hr h; cases hA
    obtain rfl : m = [] := List.eq_nil_of_length_eq_zero h0
    obtain ⟨A, c, rfl⟩ := own_form hown
    refine ⟨A, c, w, ?_, ?_, ⟨rfl, rfl, rfl, Nat.le_refl _, fun _ _ _ => rfl⟩, .inl ?_⟩
    · rw [List.append_nil]
      exact run_append_nil (P := Tryz.prog) (w := w) base t ty e i0 n c2 E.ht hi0 _ _ _ hown
    · rw [List.append_nil]; exact hown
    · rw [List.append_nil]
  | some ad =>
    obtain ⟨v', w', hrun, h2, h3, _, h5⟩ := run_append_own_at (P := Tryz.prog) w base t ty e i0 z n bytes E.ht hi0 hz0 hz1 hz2 E.hz E.hn v l.length (cellsOfRow f l) hown ad m.length c2 (cellsOfRow f m) (cellsOfRow_len E.len m) (fun j u hu => by
      obtain ⟨y, hy, hyu⟩ := cellsOfRow_split E.hn E.len m j u hu
      have hml : 0 < m.length := Nat.lt_of_le_of_lt (Nat.zero_le _) (List.getElem?_eq_some_iff.1 hy).1
      obtain ⟨b, o', hA, hlt, hat⟩ := hr hml
      injection hA with hA
      subst hA
      have h := hat (j / n) y hy (j % n) u hyu
      rw [add_at, ← h]
      have hd : j / n * n + j % n = j := by rw [Nat.mul_comm]; exact Nat.div_add_mod j n
      rw [Nat.add_assoc, hd]) (cellsOfRow_one E.one m) (by simp only [maxLen]; omega) (Nat.le_trans (Nat.mul_le_mul (by omega : l.length + m.length ≤ 100000000) hby) (by omega)) hbase
    have hlen2 : (l ++ m).length = l.length + m.length := by simp
    have h2' : OwnL f e n base w' v' (l ++ m) := by
      unfold OwnL
      rw [hlen2, cellsOfRow_append]
      exact h2
    obtain ⟨A, c, rfl⟩ := own_form h2'
    exact ⟨A, c, w', hrun, h2', h3, h5⟩

theorem wpList_appendL (E : EltOf t e n bytes z f) {w : World} {ops : Array Oper} {rest : List Oper} {o : Oper} {a : Act} {Q : Exit → Act → World → Prop} (hgd : o.guard = none) {s x : Operand}
    (ho : o.op = .call { callee := .builtin .append, args := #[s, x], argTypes := #[t, t] }) (base : Nat) (l m : List α) (v v2 : Value) (hs : a.eval s = v) (hx : a.eval x = v2)
    (hown : OwnL f e n base w v l) (hm : RowIn n f w v2 m) (hlen : l.length + m.length ≤ 100000000) (hbase : base ≤ w.heap.size)
    (h : ∀ (out : List α) A c w', out = l ++ m → OwnL f e n base w' (.slice A out.length c) out → w.grownBy w' v.ownBlock → ((Value.slice A out.length c).ownBlock = v.ownBlock ∨ (Value.slice A out.length c).ownBlock = some w.heap.size) → wpList Tryz.prog ops Q rest (a.put o.dst (.slice A out.length c)) w') :
    wpList Tryz.prog ops Q (o :: rest) a w := by
  refine wpList_plain hgd fun K hK => ?_
  obtain ⟨A, c, w', hrun, h2, h3, h4⟩ := run_appendL E w o.type base l m v v2 hown hm hlen hbase
  unfold Oper.wp
  simp [execOp, ho, resolve, invoke, builtin, hs, hx, hrun, Result.andThen]
  have h6 := hK _ _ (h _ A c w' rfl h2 h3 h4)
  rw [List.length_append] at h6
  exact h6

theorem step_appendL (E : EltOf t e n bytes z f) {w : World} {ops : Array Oper} {o : Oper} {a : Act} {K : Act → World → Prop} {Q : Exit → Act → World → Prop} {X : Prop} (hgd : o.guard = none) (s x : Operand)
    (ho : o.op = .call { callee := .builtin .append, args := #[s, x], argTypes := #[t, t] }) (base : Nat) (l m : List α) (v v2 : Value) (hs : a.eval s = v) (hx : a.eval x = v2)
    (hown : OwnL f e n base w v l) (hm : RowIn n f w v2 m) (hlen : l.length + m.length ≤ 100000000) (hbase : base ≤ w.heap.size)
    (h : ∀ (out : List α) A c w', out = l ++ m → OwnL f e n base w' (.slice A out.length c) out → w.grownBy w' v.ownBlock → ((Value.slice A out.length c).ownBlock = v.ownBlock ∨ (Value.slice A out.length c).ownBlock = some w.heap.size) → K (a.put o.dst (.slice A out.length c)) w') :
    if Region.wanted o (yielded ops a.tmps) = true then Oper.wp Tryz.prog o a w K Q else X := by
  have hw : Region.wanted o (yielded ops a.tmps) = true := by simp [Region.wanted, hgd]
  rw [if_pos hw]
  obtain ⟨A, c, w', hrun, h2, h3, h4⟩ := run_appendL E w o.type base l m v v2 hown hm hlen hbase
  unfold Oper.wp
  simp [execOp, ho, resolve, invoke, builtin, hs, hx, hrun, Result.andThen]
  have h6 := h _ A c w' rfl h2 h3 h4
  rw [List.length_append] at h6
  exact h6

/-- Behind an append all that lies below is as it was. -/
theorem grown_own {base : Nat} {w w' W : World} {v : Value} {l : List α} (hg : w.grownBy w' v.ownBlock) (hown : OwnL f e n base W v l) (hb : base ≤ w.heap.size) : Below base w w' :=
  grown_below hg hb (fun r hr => (hown.lt hr).1)

/-- A part of a list: what the walk's slice comes to, and what it holds. -/
theorem row_from (E : EltOf t e n bytes z f) {w : World} {A : Option Addr} {c : Nat} {l : List α} (h : RowIn n f w (.slice A l.length c) l) (a : Nat) (ha : a ≤ l.length) :
    ∃ (m : List α) (A2 : Option Addr) (c2 : Nat), m = l.drop a ∧ (∀ w' : World, (Instr.sliceAt t (.slice A l.length c) (some (.int .i64 a)) none none).run Tryz.prog w' = .ok (.slice A2 m.length c2) w') ∧ RowIn n f w (.slice A2 m.length c2) m := by
  obtain ⟨i0, hi0, hz0, hz1, hz2⟩ := info_parts E.hi
  have hp := RowIn.part h (i := a) (j := l.length) ha (Nat.le_refl _)
  rw [List.take_length] at hp
  have hlen : (l.drop a).length = l.length - a := by simp
  have hel : Tryz.prog.elem t = e := by simp [Program.elem, E.ht]
  refine ⟨l.drop a, _, _, rfl, fun w' => ?_, by rw [hlen]; exact hp⟩
  rw [run_sliceAt_slice _ t _ _ _ _ (by rw [hel]; exact E.ht), run_slice_l _ t A l.length c (by rw [hel]; exact E.ht) _ _ (by omega) (by omega), hel]
  simp [sizeOf, typeInfo, hi0, hz1, Result.andThen, sliced, hlen]
end
end

section
set_option linter.unusedSimpArgs false
set_option linter.unusedVariables false
open Go.RowKit Go.Lib Go.ChangeShapes Go.WideShapes Go.Joins

def keyC (p : Ky) : List Value := [.int .u64 p.1, .int .u64 p.2]

theorem keysIn_row {w : World} {v : Value} {l : List Ky} (h : RowIn 2 keyC w v l) : KeysIn w v l := by
  obtain ⟨A, c, hv, _, h⟩ := h
  refine ⟨A, c, hv, fun hn => ?_⟩
  obtain ⟨b, o, hA, hlt, h⟩ := h hn
  refine ⟨b, o, hA, hlt, fun j u hu => ?_⟩
  obtain ⟨x, h1, h2⟩ := cellsOfRow_split (n := 2) (f := keyC) (by decide) (fun _ => rfl) l j u hu
  have := h _ x h1 _ u h2
  rw [show o + j / 2 * 2 + j % 2 = o + j by omega] at this
  exact this
theorem row_keysIn {w : World} {A : Option Addr} {m c : Nat} {l : List Ky} (h : KeysIn w (.slice A m c) l) (hc : m ≤ c) : RowIn 2 keyC w (.slice A m c) l := by
  obtain ⟨A1, c1, hv, h⟩ := h
  injection hv with e1 e2 e3
  subst e1 e2 e3
  refine ⟨_, _, rfl, hc, fun hn => ?_⟩
  obtain ⟨b, o, hA, hlt, h⟩ := h hn
  refine ⟨b, o, hA, hlt, fun k x hk j u hu => ?_⟩
  have := h _ u (cellsOfRow_at (n := 2) (f := keyC) (fun _ => rfl) l k x hk j u hu)
  rwa [← Nat.add_assoc] at this

section
variable {H : Type} {enc : TypeId × Value → H} {w : World} {base : Nat} {spare : Nat → Bool} {held : Bool}

end
end

section
set_option linter.unusedSimpArgs false
set_option linter.unusedVariables false
open Go.Shelf
end

end Go.Proofs.YtmniiodpbebnmaaGreat
