/- Frozen nodes, the items that they are, and cuts of them, where nothing turns; Chapter 19's awake: a cut of nothing; Numbers of two words: the plain law of a quotient, bit by bit; Walks of wide: sums and quotients of numbers of two words. -/
import Derived.Test.YtmniiodpbebnmaaGreatC15
import Derived.Test.YtmniiodpbebnmaaGreatC02
import Derived.Test.YtmniiodpbebnmaaGreatC04
import Derived.Laws.Externs
namespace Go.Proofs.YtmniiodpbebnmaaGreat

section
set_option linter.unusedSimpArgs false
set_option linter.unusedVariables false
open Go.RowKit Go.Lib Go.Sort

theorem RowG.lt {α : Type} {P : Nat → Prop} {n : Nat} {f : α → List Value} {w : World} {v : Value} {l : List α} (h : RowG P n f w v l) : RowG (fun b => P b ∧ b < w.heap.size) n f w v l := by
  refine ⟨h.1, fun b o m c e hn => ⟨h.2 b o m c e hn, ?_⟩⟩
  obtain ⟨A, c2, rfl, hl, hx⟩ := h.1
  obtain ⟨b2, o2, rfl, hb, -⟩ := hx hn
  simp only [Value.slice.injEq, Option.some.injEq, Addr.mk.injEq, and_true] at e
  rw [← e.1.1]
  exact hb
theorem ItemsIn.lt {P : Nat → Prop} {w : World} {v : Value} {l : List It} (h : ItemsIn P w v l) : ItemsIn (fun b => P b ∧ b < w.heap.size) w v l :=
  ⟨h.1.lt, fun x hx => ⟨(h.2 x hx).1.lt, (h.2 x hx).2.lt⟩⟩
theorem ItemsIn.and {P Q : Nat → Prop} {w : World} {v : Value} {l : List It} (h : ItemsIn P w v l) (k : ItemsIn Q w v l) : ItemsIn (fun b => P b ∧ Q b) w v l :=
  ⟨⟨h.1.1, fun b o m c e hn => ⟨h.1.2 b o m c e hn, k.1.2 b o m c e hn⟩⟩, fun x hx => ⟨⟨(h.2 x hx).1.1, fun b o m c e hn => ⟨(h.2 x hx).1.2 b o m c e hn, (k.2 x hx).1.2 b o m c e hn⟩⟩, ⟨(h.2 x hx).2.1, fun b o m c e hn => ⟨(h.2 x hx).2.2 b o m c e hn, (k.2 x hx).2.2 b o m c e hn⟩⟩⟩⟩
theorem ItemsIn.keepS {P : Nat → Prop} {w w' : World} {v : Value} {l : List It} (h : ItemsIn P w v l) (hs : w.heap.size ≤ w'.heap.size) (hk : ∀ b, P b → b < w.heap.size → w'.heap[b]? = w.heap[b]?) : ItemsIn P w' v l :=
  ⟨h.1.keepP hs hk, fun x hx => ⟨(h.2 x hx).1.keepP hs hk, (h.2 x hx).2.keepP hs hk⟩⟩

/-- Frozen nodes and items, all in blocks of one kind. -/
def FzAt (S : Nat → Prop) (w : World) (es : List (KO × NE)) (rs rh : Nat) (v : Value) (l : List It) : Prop :=
  (∀ x ∈ frL es l, ∃ fp, NodeIn w x.2 (ndF es x) rs rh fp ∧ (ndF es x).frz = true ∧ ∀ r ∈ fp, S r) ∧ ItemsIn S w v l
theorem FzAt.kept {S : Nat → Prop} {w w' : World} {es : List (KO × NE)} {rs rh : Nat} {v : Value} {l : List It} (h : FzAt S w es rs rh v l) (hs : w.heap.size ≤ w'.heap.size) (hk : ∀ b, S b → b < w.heap.size → w'.heap[b]? = w.heap[b]?) : FzAt S w' es rs rh v l := by
  refine ⟨fun x hx => ?_, h.2.keepS hs hk⟩
  obtain ⟨fp, a, b, c⟩ := h.1 x hx
  exact ⟨fp, a.kept (fun r hr => hk r (c r hr) (a.lt r hr)), b, c⟩
theorem FzAt.below {S : Nat → Prop} {w w' : World} {es : List (KO × NE)} {rs rh : Nat} {v : Value} {l : List It} (h : FzAt S w es rs rh v l) (hb : Below w.heap.size w w') : FzAt S w' es rs rh v l := h.kept hb.size (fun b _ hlt => hb.block b hlt)
theorem FzAt.imp {S S' : Nat → Prop} {w : World} {es : List (KO × NE)} {rs rh : Nat} {v : Value} {l : List It} (h : FzAt S w es rs rh v l) (hi : ∀ b, S b → S' b) : FzAt S' w es rs rh v l :=
  ⟨fun x hx => by obtain ⟨fp, a, b, c⟩ := h.1 x hx; exact ⟨fp, a, b, fun r hr => hi r (c r hr)⟩, h.2.imp hi⟩
theorem FzAt.nodes {S : Nat → Prop} {w : World} {es : List (KO × NE)} {rs rh : Nat} {v : Value} {l : List It} (h : FzAt S w es rs rh v l) : NodesOf w (frL es l) (ndF es) rs rh := fun x hx => by
  obtain ⟨fp, a, _, _⟩ := h.1 x hx
  exact ⟨fp, a⟩
/-! ### Cuts of frozen entries -/
end

section
set_option linter.unusedSimpArgs false
set_option linter.unusedVariables false
open Go.RowKit Go.Lib Go.Sort
end

section
set_option linter.unusedSimpArgs false
set_option linter.unusedVariables false
open Go.RowKit Go.Lib

def twoV (n : Nat) : Value := .agg #[.int .u64 ((n / 18446744073709551616 : Nat) : Int), .int .u64 ((n % 18446744073709551616 : Nat) : Int)]
theorem or_fresh {x k : Nat} (h : 2 ^ (k + 1) ∣ x) : x ||| 2 ^ k = x + 2 ^ k := by
  obtain ⟨a, rfl⟩ := h
  exact (Nat.two_pow_add_eq_or_of_lt (Nat.pow_lt_pow_right (by decide) (by omega)) a).symm
def xD (n i : Nat) : Nat := n * 2 ^ i % 340282366920938463463374607431768211456
def aD (n i : Nat) : Nat := n / 2 ^ (128 - i)
def rD (n d i : Nat) : Nat := aD n i % d
def qD (n d i : Nat) : Nat := aD n i / d * 2 ^ (128 - i)
def bD (n i : Nat) : Nat := (n.testBit (127 - i)).toNat
theorem bD_le (n i : Nat) : bD n i ≤ 1 := by unfold bD; cases n.testBit (127 - i) <;> simp
theorem aD_succ {n i : Nat} (hi : i < 128) : aD n (i + 1) = 2 * aD n i + bD n i := by
  unfold aD bD
  have h := top_bit n (127 - i)
  rw [show 127 - i + 1 = 128 - i by omega] at h
  rw [show 128 - (i + 1) = 127 - i by omega]
  exact h
theorem pow128 : (340282366920938463463374607431768211456 : Nat) = 2 ^ 128 := by decide
theorem xD_bit {n i : Nat} (hi : i < 128) : xD n i / 170141183460469231731687303715884105728 = bD n i := by
  unfold xD bD
  rw [bit_nat]
  have e : (170141183460469231731687303715884105728 : Nat) = 2 ^ i * 2 ^ (127 - i) := by rw [← Nat.pow_add, show i + (127 - i) = 127 by omega]
  have e2 : (340282366920938463463374607431768211456 : Nat) = 170141183460469231731687303715884105728 * 2 := by decide
  rw [e2, Nat.mod_mul_right_div_self, e, ← Nat.div_div_eq_div_mul, Nat.mul_div_cancel _ (Nat.two_pow_pos i)]
theorem xD_succ (n i : Nat) : xD n (i + 1) = 2 * xD n i % 340282366920938463463374607431768211456 := by
  unfold xD
  rw [Nat.pow_succ, ← Nat.mul_assoc]
  generalize n * 2 ^ i = y
  omega
theorem xD_lt (n i : Nat) : xD n i < 340282366920938463463374607431768211456 := Nat.mod_lt _ (by decide)
theorem rD_lt {n d i : Nat} (hd : 0 < d) : rD n d i < d := Nat.mod_lt _ hd
theorem div_low {n d i : Nat} (hi : i < 128) (hd : 0 < d) (h : 2 * rD n d i + bD n i < d) : rD n d (i + 1) = 2 * rD n d i + bD n i ∧ qD n d (i + 1) = qD n d i := by
  unfold rD qD at *
  rw [aD_succ hi]
  have hm := Nat.div_add_mod (aD n i) d
  generalize aD n i / d = k at *
  generalize aD n i % d = r at *
  have e : 2 * aD n i + bD n i = d * (2 * k) + (2 * r + bD n i) := by rw [← hm, Nat.mul_left_comm]; omega
  rw [e, Nat.mul_add_mod, Nat.mod_eq_of_lt h, Nat.mul_add_div hd, Nat.div_eq_of_lt h]
  refine ⟨rfl, ?_⟩
  rw [show 128 - i = 128 - (i + 1) + 1 by omega, Nat.pow_succ, Nat.add_zero, Nat.mul_comm 2 k, Nat.mul_assoc, Nat.mul_comm 2]
theorem div_high {n d i : Nat} (hi : i < 128) (hd : 0 < d) (h : d ≤ 2 * rD n d i + bD n i) : rD n d (i + 1) = 2 * rD n d i + bD n i - d ∧ qD n d (i + 1) = qD n d i + 2 ^ (127 - i) := by
  have hr := rD_lt (n := n) (i := i) hd
  have hb := bD_le n i
  unfold rD qD at *
  rw [aD_succ hi]
  have hm := Nat.div_add_mod (aD n i) d
  generalize aD n i / d = k at *
  generalize aD n i % d = r at *
  have e : 2 * aD n i + bD n i = d * (2 * k + 1) + (2 * r + bD n i - d) := by
    have e1 : d * (2 * k + 1) = 2 * (d * k) + d := by rw [Nat.mul_add, Nat.mul_one, Nat.mul_left_comm]
    rw [← hm, e1]
    omega
  have hlt : 2 * r + bD n i - d < d := by omega
  rw [e, Nat.mul_add_mod, Nat.mod_eq_of_lt hlt, Nat.mul_add_div hd, Nat.div_eq_of_lt hlt]
  refine ⟨rfl, ?_⟩
  rw [show 128 - i = 128 - (i + 1) + 1 by omega, Nat.pow_succ, Nat.add_zero, Nat.add_mul, Nat.one_mul, show 128 - (i + 1) = 127 - i by omega, Nat.mul_comm 2 k, Nat.mul_assoc, Nat.mul_comm 2]
theorem qD_dvd (n d i : Nat) : 2 ^ (128 - i) ∣ qD n d i := Nat.dvd_mul_left _ _
theorem qD_zero {n d : Nat} (hn : n < 340282366920938463463374607431768211456) : qD n d 0 = 0 ∧ rD n d 0 = 0 ∧ xD n 0 = n := by
  have h : n / 340282366920938463463374607431768211456 = 0 := Nat.div_eq_of_lt hn
  refine ⟨?_, ?_, ?_⟩
  · unfold qD aD; rw [Nat.sub_zero, ← pow128, h, Nat.zero_div, Nat.zero_mul]
  · unfold rD aD; rw [Nat.sub_zero, ← pow128, h, Nat.zero_mod]
  · unfold xD; rw [Nat.pow_zero, Nat.mul_one, Nat.mod_eq_of_lt hn]
theorem qD_end (n d : Nat) : qD n d 128 = n / d ∧ rD n d 128 = n % d := by
  unfold qD rD aD
  simp
theorem qD_lt {n d i : Nat} (hn : n < 340282366920938463463374607431768211456) (hi : i ≤ 128) : qD n d i < 340282366920938463463374607431768211456 := by
  unfold qD aD
  have h1 := Nat.div_le_self (n / 2 ^ (128 - i)) d
  have h2 := Nat.mul_le_mul_right (2 ^ (128 - i)) h1
  have h3 := Nat.div_mul_le_self n (2 ^ (128 - i))
  omega
/-- The higher word gains a bit. -/
theorem q_hi {n d i : Nat} (hi : i < 64) (hn : n < 340282366920938463463374607431768211456) :
    (qD n d i + 2 ^ (127 - i)) / 18446744073709551616 = (qD n d i / 18446744073709551616 ||| 2 ^ (63 - i)) ∧ (qD n d i + 2 ^ (127 - i)) % 18446744073709551616 = qD n d i % 18446744073709551616 := by
  obtain ⟨m, hm⟩ := qD_dvd n d i
  have e1 : 2 ^ (127 - i) = 18446744073709551616 * 2 ^ (63 - i) := by
    rw [show 127 - i = 64 + (63 - i) by omega, Nat.pow_add]
  have e2 : 2 ^ (128 - i) = 18446744073709551616 * 2 ^ (63 - i + 1) := by
    rw [show 128 - i = 64 + (63 - i + 1) by omega, Nat.pow_add]
  have e3 : qD n d i / 18446744073709551616 = 2 ^ (63 - i + 1) * m := by
    rw [hm, e2, Nat.mul_assoc, Nat.mul_div_cancel_left _ (by decide)]
  constructor
  · rw [e3, or_fresh (Nat.dvd_mul_right _ _), hm, e1, e2, Nat.mul_assoc, ← Nat.mul_add, Nat.mul_div_cancel_left _ (by decide)]
  · rw [e1, Nat.add_mul_mod_self_left]
/-- The lower word gains a bit. -/
theorem q_lo {n d i : Nat} (h64 : 64 ≤ i) (hi : i < 128) :
    (qD n d i + 2 ^ (127 - i)) / 18446744073709551616 = qD n d i / 18446744073709551616 ∧ (qD n d i + 2 ^ (127 - i)) % 18446744073709551616 = (qD n d i % 18446744073709551616 ||| 2 ^ (127 - i)) := by
  have hd : 2 ^ (128 - i) ∣ qD n d i % 18446744073709551616 := by
    rw [Nat.dvd_mod_iff]
    · exact qD_dvd n d i
    · rw [show (18446744073709551616 : Nat) = 2 ^ 64 by decide]
      exact Nat.pow_dvd_pow 2 (by omega)
  have ho : (qD n d i % 18446744073709551616 ||| 2 ^ (127 - i)) = qD n d i % 18446744073709551616 + 2 ^ (127 - i) := or_fresh (by rw [show 127 - i + 1 = 128 - i by omega]; exact hd)
  have hlt : qD n d i % 18446744073709551616 + 2 ^ (127 - i) < 18446744073709551616 := by
    obtain ⟨m, hm⟩ := hd
    have hx := Nat.mod_lt (qD n d i) (show 0 < 18446744073709551616 by decide)
    have e : 18446744073709551616 = 2 ^ (128 - i) * 2 ^ (i - 64) := by rw [← Nat.pow_add, show 128 - i + (i - 64) = 64 by omega]
    have e1 : 2 ^ (128 - i) = 2 * 2 ^ (127 - i) := by rw [show 128 - i = 127 - i + 1 by omega, Nat.pow_succ, Nat.mul_comm]
    have hp := Nat.two_pow_pos (127 - i)
    rw [hm] at hx ⊢
    have hm2 : m < 2 ^ (i - 64) := by
      rw [e] at hx
      exact Nat.lt_of_mul_lt_mul_left hx
    have hm3 : 2 ^ (128 - i) * (m + 1) ≤ 2 ^ (128 - i) * 2 ^ (i - 64) := Nat.mul_le_mul_left _ hm2
    rw [Nat.mul_add, Nat.mul_one, ← e] at hm3
    omega
  rw [ho]
  generalize qD n d i = q at *
  generalize 2 ^ (127 - i) = p at *
  omega
/-- The words of a number that is doubled. -/
theorem dbl_words (x : Nat) (hx : x < 340282366920938463463374607431768211456) :
    (2 * x % 340282366920938463463374607431768211456) / 18446744073709551616 = 2 * (x / 18446744073709551616) % 18446744073709551616 + x % 18446744073709551616 / 9223372036854775808 ∧
    (2 * x % 340282366920938463463374607431768211456) % 18446744073709551616 = 2 * (x % 18446744073709551616) % 18446744073709551616 ∧ x / 18446744073709551616 / 9223372036854775808 = x / 170141183460469231731687303715884105728 := by
  omega
end

section
set_option linter.unusedSimpArgs false
set_option linter.unusedVariables false
open Go.RowKit Go.Lib

theorem add64_run (x y c : Nat) (hc : c ≤ 1) (w : World) :
    (callFunc 287 #[.int .u64 x, .int .u64 y, .int .u64 c]).run Tryz.prog w =
      .ok (.value (.tuple #[.int .u64 (((x + y + c) % 18446744073709551616 : Nat) : Int), .int .u64 (((x + y + c) / 18446744073709551616 : Nat) : Int)])) w := by
  rw [run_callFunc_extern Tryz.func287 (by kernel_rfl) (by kernel_rfl) (by kernel_rfl) (e := add64Entry) (by kernel_rfl), run_add64 x y c (by omega) (by omega) (by omega) (by omega)]
  simp only [Result.andThen]
  congr 5 <;> omega

set_option maxRecDepth 100000 in
set_option maxHeartbeats 2000000 in
theorem wideAdd_words (a b c d : Nat) (ha : a < 18446744073709551616) (hc : c < 18446744073709551616) (hb : b < 18446744073709551616) (hd : d < 18446744073709551616) (lo k hi : Nat) (e1 : lo = (b + d) % 18446744073709551616) (e2 : k = (b + d) / 18446744073709551616) (e3 : hi = a + c + k) (h : hi < 18446744073709551616) (w : World) :
    Calls Tryz.prog 242 #[.agg #[.int .u64 a, .int .u64 b], .agg #[.int .u64 c, .int .u64 d]] w fun e w' => e = .returned (.tuple #[.agg #[.int .u64 hi, .int .u64 lo], .bool true]) ∧ Below w.heap.size w w' := by
  have r1 : ∀ W, (callFunc 287 #[.int .u64 b, .int .u64 d, .int .u64 0]).run Tryz.prog W = .ok (.value (.tuple #[.int .u64 lo, .int .u64 k])) W := fun W => by
    have := add64_run b d 0 (by omega) W
    rw [Nat.add_zero, ← e1, ← e2] at this
    exact this
  have hk : k ≤ 1 := by omega
  have r2 : ∀ W, (callFunc 287 #[.int .u64 a, .int .u64 c, .int .u64 k]).run Tryz.prog W = .ok (.value (.tuple #[.int .u64 hi, .int .u64 0])) W := fun W => by
    have := add64_run a c k hk W
    rw [← e3, Nat.mod_eq_of_lt h, Nat.div_eq_of_lt h] at this
    exact this
  clear e1 e2 e3 h hk ha hb hc hd
  go_enter Tryz.func242, Tryz.ntmps242
  go_wp2
  refine bodyPost_ret (v := .tuple #[.agg #[.int .u64 hi, .int .u64 lo], .bool true]) (by simp [results, Tryz.results242, go_sem]) rfl ⟨rfl, balloc (balloc (balloc (Below.refl _ _) _) _) _⟩
theorem wideAdd_any (m n : Nat) (h : m + n < 340282366920938463463374607431768211456) (w : World) :
    Calls Tryz.prog 242 #[twoV m, twoV n] w fun e w' => e = .returned (.tuple #[twoV (m + n), .bool true]) ∧ Below w.heap.size w w' := by
  unfold twoV
  have e : (m + n) / 18446744073709551616 = m / 18446744073709551616 + n / 18446744073709551616 + (m % 18446744073709551616 + n % 18446744073709551616) / 18446744073709551616 := by omega
  have e2 : (m + n) % 18446744073709551616 = (m % 18446744073709551616 + n % 18446744073709551616) % 18446744073709551616 := by omega
  exact wideAdd_words _ _ _ _ (by omega) (by omega) (by omega) (by omega) _ _ _ e2 rfl e (by omega) w

set_option maxRecDepth 100000 in
set_option maxHeartbeats 2000000 in
theorem wideSmall_any (n : Nat) (h : n ≤ 9223372036854775807) (w : World) :
    Calls Tryz.prog 285 #[twoV n] w fun e w' => e = .returned (.int .i64 n) ∧ Below w.heap.size w w' := by
  have e1 : n / 18446744073709551616 = 0 := by omega
  have e2 : n % 18446744073709551616 = n := by omega
  unfold twoV
  rw [e1, e2]
  have q1 : ¬ (9223372036854775807 : Int) < (n : Int) := by omega
  have q2 : decide ((9223372036854775807 : Int) < (n : Int)) = false := by simp; omega
  have q3 : IntKind.i64.wrap (n : Int) = (n : Int) := by rw [IntKind.wrap_i64]; omega
  clear e1 e2 h
  go_enter Tryz.func285, Tryz.ntmps285
  go_wp2
  all_goals
    go_ret
    exact ⟨rfl, balloc (Below.refl _ _) _⟩

/-- Three boxes of one call. -/
theorem box3_0 (w : World) (a b c : Obj) : (((w.alloc a).alloc b).alloc c).heap[w.heap.size]? = some a := (Below.heap_alloc _ _ _ (by simp; omega)).trans (box_old w a b)
theorem box3_1 (w : World) (a b c : Obj) : (((w.alloc a).alloc b).alloc c).heap[w.heap.size + 1]? = some b := (Below.heap_alloc _ _ _ (by simp)).trans (box_new w a b)
theorem box3_2 (w : World) (a b c : Obj) : (((w.alloc a).alloc b).alloc c).heap[w.heap.size + 1 + 1]? = some c := by
  have h := heap_alloc_new ((w.alloc a).alloc b) c
  simpa using h
theorem heap_set_ne {w : World} {r k i : Nat} {v : Value} {x : Option Obj} (h : w.heap[k]? = x) (hk : k ≠ r) : (w.setCell ⟨r, i, none⟩ v).heap[k]? = x := (Below.heap_setCell _ _ _ _ hk).trans h
/-- The state of a division. -/
def DivAt (w wr : World) (x1 x0 q1 q0 : Nat) : Prop :=
  Below w.heap.size w wr ∧ wr.heap[w.heap.size]? = some (.cells #[.int .u64 x1, .int .u64 x0] 272 (0, 0)) ∧ wr.heap[w.heap.size + 1]? = some (.cells #[.int .u64 0, .int .u64 0] 272 (0, 0)) ∧ wr.heap[w.heap.size + 1 + 1]? = some (.cells #[.int .u64 q1, .int .u64 q0] 272 (0, 0))

theorem DivAt.setx {w wr : World} {x1 x0 q1 q0 : Nat} (h : DivAt w wr x1 x0 q1 q0) (y1 y0 : Nat) : DivAt w ((wr.setCell ⟨w.heap.size, 0, none⟩ (.int .u64 y1)).setCell ⟨w.heap.size, 1, none⟩ (.int .u64 y0)) y1 y0 q1 q0 := by
  obtain ⟨a, b, c, d⟩ := h
  exact ⟨(a.setCell (Nat.le_refl _) _).setCell (Nat.le_refl _) _, setCell_block (setCell_block b), heap_set_ne (heap_set_ne c (by omega)) (by omega), heap_set_ne (heap_set_ne d (by omega)) (by omega)⟩
theorem DivAt.setq1 {w wr : World} {x1 x0 q1 q0 : Nat} (h : DivAt w wr x1 x0 q1 q0) (y : Nat) : DivAt w (wr.setCell ⟨w.heap.size + 1 + 1, 0, none⟩ (.int .u64 y)) x1 x0 y q0 := by
  obtain ⟨a, b, c, d⟩ := h
  exact ⟨a.setCell (by simp; omega) _, heap_set_ne b (by omega), heap_set_ne c (by omega), setCell_block d⟩
theorem DivAt.setq0 {w wr : World} {x1 x0 q1 q0 : Nat} (h : DivAt w wr x1 x0 q1 q0) (y : Nat) : DivAt w (wr.setCell ⟨w.heap.size + 1 + 1, 1, none⟩ (.int .u64 y)) x1 x0 q1 y := by
  obtain ⟨a, b, c, d⟩ := h
  exact ⟨a.setCell (by simp; omega) _, heap_set_ne b (by omega), heap_set_ne c (by omega), setCell_block d⟩
theorem DivAt.drew {w wr : World} {x1 x0 q1 q0 : Nat} (h : DivAt w wr x1 x0 q1 q0) : DivAt w wr.drew x1 x0 q1 q0 := by
  obtain ⟨a, b, c, d⟩ := h
  exact ⟨a.drew, b, c, d⟩
theorem pow_word {k : Nat} (h : k < 64) : IntKind.u64.wrap ((2 : Int) ^ k) = ((2 ^ k : Nat) : Int) ∧ 2 ^ k < 18446744073709551616 := by
  have hp : 2 ^ k < 2 ^ 64 := Nat.pow_lt_pow_right (by decide) h
  have e : (2 : Int) ^ k = ((2 ^ k : Nat) : Int) := by simp
  rw [e]
  generalize 2 ^ k = m at hp
  exact ⟨u64_wrap m (by omega), by omega⟩

theorem shl_one (r : Nat) : IntKind.u64.wrap ((r : Int) * 2) = ((2 * r % 18446744073709551616 : Nat) : Int) := by rw [IntKind.wrap_u64]; omega
theorem or_bit {a b : Nat} (ha : a % 2 = 0) (hb : b ≤ 1) : (a ||| b) = a + b := by
  have : b = 0 ∨ b = 1 := by omega
  rcases this with rfl | rfl
  · simp
  · obtain ⟨k, rfl⟩ : ∃ k, a = 2 ^ 1 * k := ⟨a / 2, by omega⟩
    exact (Nat.two_pow_add_eq_or_of_lt (by decide) k).symm

set_option maxRecDepth 100000 in
set_option maxHeartbeats 4000000 in
theorem wideDiv_any (n d : Nat) (hn : n < 340282366920938463463374607431768211456) (hd : 0 < d) (hd2 : d < 18446744073709551616) (w : World) :
    Calls Tryz.prog 283 #[twoV n, .int .u64 d] w fun e w' => e = .returned (.tuple #[twoV (n / d), .int .u64 (n % d : Nat), .bool true]) ∧ Below w.heap.size w w' := by
  unfold twoV
  obtain ⟨a, ha⟩ : ∃ a, a = n / 18446744073709551616 := ⟨_, rfl⟩
  obtain ⟨b, hb⟩ : ∃ b, b = n % 18446744073709551616 := ⟨_, rfl⟩
  rw [← ha, ← hb]
  have HA := Lib.hid ha
  have HB := Lib.hid hb
  have HN := Lib.hid hn
  have HD := Lib.hid hd
  have HD2 := Lib.hid hd2
  have q0 : ¬ (d : Int) = 0 := by omega
  have q1 : ((d : Int) == 0) = false := by simp; omega
  clear ha hb hn hd hd2
  go_enter Tryz.func283, Tryz.ntmps283
  go_wp2
  go_loopg [8, 14] 128 (fun g s8 s14 wr => ∃ (i : Nat) (x1 x0 q1 q0 r : Nat), i ≤ 128 ∧ 128 - i ≤ g ∧ s14 = .int .i64 i ∧ s8 = .int .u64 r ∧ Hid (r = rD n d i) ∧ Hid (x1 = xD n i / 18446744073709551616 ∧ x0 = xD n i % 18446744073709551616) ∧ Hid (q1 = qD n d i / 18446744073709551616 ∧ q0 = qD n d i % 18446744073709551616) ∧ DivAt w wr x1 x0 q1 q0)
  case atStart =>
    obtain ⟨z1, z2, z3⟩ := qD_zero (n := n) (d := d) HN.out
    refine ⟨0, a, b, 0, 0, 0, by omega, Nat.le_refl _, rfl, rfl, Lib.hid z2.symm, Lib.hid ⟨by rw [z3]; exact HA.out, by rw [z3]; exact HB.out⟩, Lib.hid ⟨by rw [z1], by rw [z1]⟩, balloc (balloc (balloc (Below.refl _ _) _) _) _, box3_0 _ _ _ _, box3_1 _ _ _ _, box3_2 _ _ _ _⟩
  case round =>
    obtain ⟨i, x1, x0, p1, p0, r, hi, hg, rfl, rfl, HRr, HX, HQ, hd⟩ := hrel
    rename World => wr
    have HDA := Lib.hid hd
    obtain ⟨hbw, hx, hz, hq⟩ := hd
    obtain ⟨c1, c2, c3⟩ := box_cells (Below.refl _ _) hx
    obtain ⟨c4, c5, c6⟩ := box_cells (Below.refl _ _) hq
    obtain ⟨c7, c8, c9⟩ := box_cells (Below.refl _ _) hz
    have HBW := Lib.hid hbw
    have HXB := Lib.hid hx
    have HZB := Lib.hid hz
    have HQB := Lib.hid hq
    clear hbw hx hz hq
    by_cases hlt : i < 128
    · have q2 : (i : Int) < 128 := by omega
      have hr := HRr.out
      have hxx := HX.out
      have hxl := xD_lt n i
      have hrl := rD_lt (n := n) (i := i) HD.out
      have hbit := xD_bit (n := n) hlt
      obtain ⟨w1, w2, w3⟩ := dbl_words (xD n i) hxl
      have hxs := xD_succ n i
      have hbl := bD_le n i
      have hd2 := HD2.out
      obtain ⟨R2, hR2⟩ : ∃ R2, R2 = 2 * r % 18446744073709551616 := ⟨_, rfl⟩
      obtain ⟨t1, ht1⟩ : ∃ t1, t1 = x1 / 9223372036854775808 := ⟨_, rfl⟩
      obtain ⟨r2, hr2⟩ : ∃ r2, r2 = R2 + t1 := ⟨_, rfl⟩
      obtain ⟨X2, hX2⟩ : ∃ X2, X2 = 2 * x1 % 18446744073709551616 := ⟨_, rfl⟩
      obtain ⟨t0, ht0⟩ : ∃ t0, t0 = x0 / 9223372036854775808 := ⟨_, rfl⟩
      obtain ⟨y1, hy1⟩ : ∃ y1, y1 = X2 + t0 := ⟨_, rfl⟩
      obtain ⟨y0, hy0⟩ : ∃ y0, y0 = 2 * x0 % 18446744073709551616 := ⟨_, rfl⟩
      obtain ⟨o, ho⟩ : ∃ o, o = r / 9223372036854775808 := ⟨_, rfl⟩
      have hx1l : x1 < 18446744073709551616 := by omega
      have hx0l : x0 < 18446744073709551616 := by omega
      have ht1b : t1 = bD n i := by rw [← hbit, ← w3, ht1, hxx.1]
      have g1 : IntKind.u64.wrap ((r : Int) * 2) = (R2 : Int) := by rw [hR2]; exact shl_one r
      have g2 : (x1 : Int) / 9223372036854775808 = (t1 : Int) := by omega
      have g3 : bits .or .u64 (R2 : Int) (t1 : Int) = (r2 : Int) := by rw [u64_or_nat _ _ (by omega) (by omega), or_bit (by omega) (by omega), hr2]
      have g4 : IntKind.u64.wrap ((x1 : Int) * 2) = (X2 : Int) := by rw [hX2]; exact shl_one x1
      have g5 : (x0 : Int) / 9223372036854775808 = (t0 : Int) := by omega
      have g6 : bits .or .u64 (X2 : Int) (t0 : Int) = (y1 : Int) := by rw [u64_or_nat _ _ (by omega) (by omega), or_bit (by omega) (by omega), hy1]
      have g7 : IntKind.u64.wrap ((x0 : Int) * 2) = (y0 : Int) := by rw [hy0]; exact shl_one x0
      have g8 : (r : Int) / 9223372036854775808 = (o : Int) := by omega
      have hR : 2 * rD n d i + bD n i = if o = 0 then r2 else 18446744073709551616 + r2 := by
        rw [← ht1b, ← hr]
        split <;> omega
      have HY := Lib.hid (show y1 = xD n (i + 1) / 18446744073709551616 ∧ y0 = xD n (i + 1) % 18446744073709551616 by
        rw [hxs, w1, w2, ← hxx.1, ← hxx.2]
        exact ⟨by rw [hy1, hX2, ht0], hy0⟩)
      by_cases hlow : 2 * rD n d i + bD n i < d
      · obtain ⟨e1, e2⟩ := div_low hlt HD.out hlow
        have ho0 : o = 0 := by
          by_cases h : o = 0
          · exact h
          · rw [if_neg h] at hR; omega
        rw [if_pos ho0] at hR
        subst ho0
        have HE := Lib.hid (show r2 = rD n d (i + 1) by rw [e1, hR])
        have HE2 := Lib.hid e2
        have q3 : (r2 : Int) < (d : Int) := by omega
        have q4 : decide ((r2 : Int) < (d : Int)) = true := by simp; omega
        clear hr hxx hxl hrl hbit w1 w2 w3 hxs hbl hd2 hR2 ht1 hr2 hX2 ht0 hy1 hy0 ho hx1l hx0l ht1b hR hlow e1 e2
        go_wp2
        go_roundg (128 - (i + 1))
        case measure => omega
        case rel => exact ⟨i + 1, y1, y0, p1, p0, r2, hlt, Nat.le_refl _, by go_num, rfl, HE, HY, Lib.hid ⟨by rw [HE2.out]; exact HQ.out.1, by rw [HE2.out]; exact HQ.out.2⟩, HDA.out.setx y1 y0⟩
      · obtain ⟨e1, e2⟩ := div_high hlt HD.out (Nat.le_of_not_lt hlow)
        obtain ⟨r3, hr3⟩ : ∃ r3, r3 = 2 * rD n d i + bD n i - d := ⟨_, rfl⟩
        have g9 : IntKind.u64.wrap ((r2 : Int) - (d : Int)) = (r3 : Int) := by
          rw [IntKind.wrap_u64, hr3, hR]
          rw [hR] at hlow
          split at hlow
          · rw [if_pos (by assumption)]; omega
          · rw [if_neg (by assumption)]; omega
        have hog : (o = 0 ∧ decide (r2 < d) = false) ∨ ((o : Int) == 0) = false := by
          by_cases h : o = 0
          · left
            rw [if_pos h] at hR
            exact ⟨h, by simp; omega⟩
          · right
            simp; omega
        have HE := Lib.hid (show r3 = rD n d (i + 1) by rw [e1, hr3])
        have HE2 := Lib.hid e2
        clear hr hxx hxl hrl hbit w1 w2 w3 hxs hbl hd2 hR2 ht1 hr2 hX2 ht0 hy1 hy0 ho hx1l hx0l ht1b hR hlow e1 e2 hr3
        by_cases h64 : i < 64
        · have q5 : (i : Int) < 64 := by omega
          have q6 : wrap64 (63 - (i : Int)) = ((63 - i : Nat) : Int) := by unfold wrap64; omega
          obtain ⟨g10, hpw⟩ := pow_word (k := 63 - i) (by omega)
          obtain ⟨P2, hP2⟩ : ∃ P2, P2 = 2 ^ (63 - i) := ⟨_, rfl⟩
          rw [← hP2] at g10 hpw
          obtain ⟨pp, hpp⟩ : ∃ pp, pp = (p1 ||| P2) := ⟨_, rfl⟩
          have g11 : bits .or .u64 (p1 : Int) (P2 : Int) = (pp : Int) := by rw [u64_or_nat _ _ (by rw [HQ.out.1]; have := qD_lt (d := d) HN.out hi; omega) hpw, hpp]
          have HPP := Lib.hid hpp
          have HPW := Lib.hid hP2
          clear hpp hP2 hpw
          rcases hog with ⟨rfl, hog⟩ | hog
          · go_wp2
            all_goals
              refine name_world ?_
              intro W hW
              have hD := HDA.out.setx y1 y0
              rw [← hW] at hD
              have HDW := Lib.hid hD
              obtain ⟨d1, d2, d3⟩ := box_cells (Below.refl _ _) hD.2.2.2
              clear hW hD
              go_region
              all_goals
                go_wp2
                go_roundg (128 - (i + 1))
                case measure => omega
                case rel => exact ⟨i + 1, y1, y0, pp, p0, r3, hlt, Nat.le_refl _, by go_num, rfl, HE, HY, Lib.hid ⟨by rw [HE2.out, (q_hi (d := d) h64 HN.out).1, HPP.out, HQ.out.1, HPW.out], by rw [HE2.out, (q_hi (d := d) h64 HN.out).2]; exact HQ.out.2⟩, (HDW.out.setq1 pp).drew⟩
          · go_wp2
            all_goals
              refine name_world ?_
              intro W hW
              have hD := HDA.out.setx y1 y0
              rw [← hW] at hD
              have HDW := Lib.hid hD
              obtain ⟨d1, d2, d3⟩ := box_cells (Below.refl _ _) hD.2.2.2
              clear hW hD
              go_region
              all_goals
                go_wp2
                go_roundg (128 - (i + 1))
                case measure => omega
                case rel => exact ⟨i + 1, y1, y0, pp, p0, r3, hlt, Nat.le_refl _, by go_num, rfl, HE, HY, Lib.hid ⟨by rw [HE2.out, (q_hi (d := d) h64 HN.out).1, HPP.out, HQ.out.1, HPW.out], by rw [HE2.out, (q_hi (d := d) h64 HN.out).2]; exact HQ.out.2⟩, (HDW.out.setq1 pp).drew⟩
        · have q5 : ¬ (i : Int) < 64 := by omega
          have q6 : wrap64 (127 - (i : Int)) = ((127 - i : Nat) : Int) := by unfold wrap64; omega
          obtain ⟨g10, hpw⟩ := pow_word (k := 127 - i) (by omega)
          obtain ⟨P2, hP2⟩ : ∃ P2, P2 = 2 ^ (127 - i) := ⟨_, rfl⟩
          rw [← hP2] at g10 hpw
          obtain ⟨pp, hpp⟩ : ∃ pp, pp = (p0 ||| P2) := ⟨_, rfl⟩
          have g11 : bits .or .u64 (p0 : Int) (P2 : Int) = (pp : Int) := by rw [u64_or_nat _ _ (by rw [HQ.out.2]; omega) hpw, hpp]
          have HPP := Lib.hid hpp
          have HPW := Lib.hid hP2
          clear hpp hP2 hpw
          rcases hog with ⟨rfl, hog⟩ | hog
          · go_wp2
            all_goals
              refine name_world ?_
              intro W hW
              have hD := HDA.out.setx y1 y0
              rw [← hW] at hD
              have HDW := Lib.hid hD
              obtain ⟨d1, d2, d3⟩ := box_cells (Below.refl _ _) hD.2.2.2
              clear hW hD
              go_region
              all_goals
                go_wp2
                go_roundg (128 - (i + 1))
                case measure => omega
                case rel => exact ⟨i + 1, y1, y0, p1, pp, r3, hlt, Nat.le_refl _, by go_num, rfl, HE, HY, Lib.hid ⟨by rw [HE2.out, (q_lo (d := d) (Nat.le_of_not_lt h64) hlt).1]; exact HQ.out.1, by rw [HE2.out, (q_lo (d := d) (Nat.le_of_not_lt h64) hlt).2, HPP.out, HQ.out.2, HPW.out]⟩, (HDW.out.setq0 pp).drew⟩
          · go_wp2
            all_goals
              refine name_world ?_
              intro W hW
              have hD := HDA.out.setx y1 y0
              rw [← hW] at hD
              have HDW := Lib.hid hD
              obtain ⟨d1, d2, d3⟩ := box_cells (Below.refl _ _) hD.2.2.2
              clear hW hD
              go_region
              all_goals
                go_wp2
                go_roundg (128 - (i + 1))
                case measure => omega
                case rel => exact ⟨i + 1, y1, y0, p1, pp, r3, hlt, Nat.le_refl _, by go_num, rfl, HE, HY, Lib.hid ⟨by rw [HE2.out, (q_lo (d := d) (Nat.le_of_not_lt h64) hlt).1]; exact HQ.out.1, by rw [HE2.out, (q_lo (d := d) (Nat.le_of_not_lt h64) hlt).2, HPP.out, HQ.out.2, HPW.out]⟩, (HDW.out.setq0 pp).drew⟩
    · obtain rfl : i = 128 := by omega
      obtain ⟨e1, e2⟩ := qD_end n d
      have hq1 := HQ.out
      rw [e1] at hq1
      have hr1 := HRr.out
      rw [e2] at hr1
      have HF := Lib.hid (And.intro hq1 hr1)
      clear hq1 hr1 e1 e2
      go_wp2
      have hz2 := setCell_block (i := 1) (v := .int .u64 p0) (setCell_block (i := 0) (v := .int .u64 p1) HZB.out)
      obtain ⟨b1, b2, b3⟩ := box_cells (Below.refl _ _) hz2
      refine bodyPost_ret (v := .tuple #[.agg #[.int .u64 p1, .int .u64 p0], .int .u64 r, .bool true]) (by simp [results, Tryz.results283, go_sem, b1]) rfl ⟨?_, (HBW.out.setCell (by simp) _).setCell (by simp) _⟩
      rw [HF.out.1.1, HF.out.1.2, HF.out.2]
end

end Go.Proofs.YtmniiodpbebnmaaGreat
