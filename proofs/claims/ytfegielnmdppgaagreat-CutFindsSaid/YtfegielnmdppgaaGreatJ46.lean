/- Sums, differences and quotients that stop at the ends: sat's, and the reference's; Numbers of 128 bits, bit by bit: the plain law; What is told of samples, plainly: a window's first tick, the samples in it, their values; Numbers of two words: the plain law of a quotient, bit by bit. -/
import Derived.Test.YtfegielnmdppgaaGreatJ08
import Derived.Test.YtfegielnmdppgaaGreatJ01
import Derived.Test.YtfegielnmdppgaaGreatJ07
namespace Go.Proofs.YtfegielnmdppgaaGreat

section
set_option linter.unusedSimpArgs false
set_option linter.unusedVariables false
open Go.RowKit Go.Lib

/-- A number, or the end that it is beyond. -/
def endsI (n : Int) : Int := if 9223372036854775807 < n then 9223372036854775807 else if n < -9223372036854775808 then -9223372036854775808 else n
theorem endsI_i64 (n : Int) : I64 (endsI n) := by
  unfold endsI I64
  split
  · omega
  · split <;> omega
def sumE : List Int → Int → Int
  | [], a => a
  | n :: l, a => sumE l (endsI (a + n))
theorem sumE_i64 : ∀ (l : List Int) (a : Int), I64 a → I64 (sumE l a)
  | [], a, h => h
  | n :: l, a, h => sumE_i64 l _ (endsI_i64 _)
theorem sumE_snoc : ∀ (l : List Int) (a n : Int), sumE (l ++ [n]) a = endsI (sumE l a + n)
  | [], a, n => rfl
  | m :: l, a, n => sumE_snoc l _ n
def nmC (n : Int) : List Value := [.int .i64 n]
theorem i64_0 : I64 0 := by unfold I64; omega

set_option maxRecDepth 100000 in
set_option maxHeartbeats 1000000 in
theorem satAdd_any (a b : Int) (w : World) (ha : I64 a) (hb : I64 b) :
    Calls Tryz.prog 124 #[.int .i64 a, .int .i64 b] w fun e w' => e = .returned (.int .i64 (endsI (a + b))) ∧ w = w' := by
  obtain ⟨a1, a2⟩ := ha
  obtain ⟨b1, b2⟩ := hb
  go_enter Tryz.func124, Tryz.ntmps124
  go_wp2
  all_goals
    go_ret
    refine ⟨ret_int ?_, rfl⟩
    (try unfold wrap64 at *)
    unfold endsI
    repeat' split
    all_goals omega
set_option maxRecDepth 100000 in
set_option maxHeartbeats 1000000 in
theorem satBit_any (b : Bool) (w : World) :
    Calls Tryz.prog 223 #[.bool b] w fun e w' => e = .returned (.int .i64 (if b = true then 1 else 0)) ∧ w = w' := by
  cases b
  all_goals
    go_enter Tryz.func223, Tryz.ntmps223
    go_wp2
    go_ret
    exact ⟨rfl, rfl⟩
theorem sub_ends {a b : Int} (ha : I64 a) (hb : I64 b) (h : b ≠ -9223372036854775808) : endsI (a + IntKind.i64.wrap (-b)) = endsI (a - b) := by
  unfold I64 at ha hb
  rw [IntKind.wrap_i64]
  congr 1
  omega
theorem sub_end {a : Int} (ha : I64 a) (q : Bool) (hq : q = decide (a < 0)) : endsI (endsI (a + 9223372036854775807) + if q = true then 1 else 0) = endsI (a - -9223372036854775808) := by
  subst hq
  unfold I64 at ha
  by_cases h : a < 0
  · simp only [h, decide_true, if_true]
    unfold endsI
    repeat' split
    all_goals omega
  · simp only [h, decide_false]
    unfold endsI
    simp only [Bool.false_eq_true, if_false]
    repeat' split
    all_goals omega
end

section
set_option linter.unusedSimpArgs false
set_option linter.unusedVariables false
open Go.RowKit Go.Lib

theorem bit_nat (n i : Nat) : (n.testBit i).toNat = n / 2 ^ i % 2 := by
  rw [Nat.testBit_eq_decide_div_mod_eq]
  have h := Nat.mod_two_eq_zero_or_one (n / 2 ^ i)
  rcases h with h | h <;> simp [h]
theorem top_bit (n i : Nat) : n / 2 ^ i = 2 * (n / 2 ^ (i + 1)) + (n.testBit i).toNat := by
  rw [bit_nat, Nat.pow_succ, ← Nat.div_div_eq_div_mul]
  omega
/-- The sum of what is above 0. -/
def totN : List Int → Nat
  | [] => 0
  | n :: l => n.toNat + totN l
theorem totN_append : ∀ a b : List Int, totN (a ++ b) = totN a + totN b
  | [], b => by simp [totN]
  | n :: a, b => by simp [totN, totN_append a b]; omega
theorem totN_le {l : List Int} (h : ∀ n ∈ l, n ≤ 9223372036854775807) : totN l ≤ l.length * 9223372036854775807 := by
  induction l with
  | nil => simp [totN]
  | cons n l ih =>
    have h1 := h n (by simp)
    have h2 := ih (fun m hm => h m (by simp [hm]))
    simp only [totN, List.length_cons]
    omega
/-- A sum by a number, rounded up. -/
def meanN (l : List Int) : Nat := if l = [] then 0 else (totN l + (l.length - 1)) / l.length
theorem meanN_le {l : List Int} (h : ∀ n ∈ l, n ≤ 9223372036854775807) : meanN l ≤ 9223372036854775807 := by
  unfold meanN
  split
  · omega
  · rename_i hne
    have hp : 0 < l.length := List.length_pos_iff.2 hne
    have := totN_le h
    apply Nat.le_of_lt_succ
    rw [Nat.div_lt_iff_lt_mul hp]
    rw [Nat.mul_comm] at this
    generalize l.length = n at *
    have e : (9223372036854775807 + 1) * n = 9223372036854775807 * n + n := by omega
    rw [e]
    omega
end

section
set_option linter.unusedSimpArgs false
set_option linter.unusedVariables false
open Go.RowKit Go.Lib

def fromW (til wd : Int) : Int := endsI (endsI (til - wd) + 1)
def winC (l : List Smp) (a b : Int) : List Smp := l.filter fun s => decide (a ≤ s.1) && decide (s.1 ≤ b)
def valsW (l : List Smp) : List Int := l.map fun s => max s.2 0
def minL : List Int → Int
  | [] => 0
  | n :: l => l.foldl min n
def maxL : List Int → Int
  | [] => 0
  | n :: l => l.foldl max n
/-- What a Stat has. -/
structure StD where
  cnt : Int
  sum : Int
  least : Int
  most : Int
  mean : Int
def stV (s : StD) : Value := .agg #[.int .i64 s.cnt, .int .i64 s.sum, .int .i64 s.least, .int .i64 s.most, .int .i64 s.mean]
def st0 : StD := ⟨0, 0, 0, 0, 0⟩
def statN (v : List Int) : StD := if v = [] then st0 else ⟨v.length, sumE v 0, minL v, maxL v, meanN v⟩
def statW (l : List Smp) (til wd : Int) : StD := statN (valsW (winC l (fromW til wd) til))
def smpI (l : List Smp) : Prop := ∀ s ∈ l, I64 s.1 ∧ I64 s.2
theorem smpI.cut {l : List Smp} (h : smpI l) (a b : Int) : smpI (winC l a b) := fun s hs => h s (List.mem_filter.1 hs).1
theorem vals_i64 {l : List Smp} (h : smpI l) : ∀ n ∈ valsW l, 0 ≤ n ∧ n ≤ 9223372036854775807 := fun n hn => by
  obtain ⟨s, hs, rfl⟩ := List.mem_map.1 hn
  have := (h s hs).2
  unfold I64 at this
  omega
theorem vals_len (l : List Smp) : (valsW l).length = l.length := by simp [valsW]
theorem cut_len (l : List Smp) (a b : Int) : (winC l a b).length ≤ l.length := List.length_filter_le _ _
theorem winC_snoc (l : List Smp) (a b : Int) (s : Smp) : winC (l ++ [s]) a b = winC l a b ++ if a ≤ s.1 ∧ s.1 ≤ b then [s] else [] := by
  unfold winC
  rw [List.filter_append]
  congr 1
  by_cases h1 : a ≤ s.1 <;> by_cases h2 : s.1 ≤ b <;> simp [h1, h2]
theorem valsW_snoc (l : List Smp) (s : Smp) : valsW (l ++ [s]) = valsW l ++ [max s.2 0] := by simp [valsW]
theorem minL_snoc {l : List Int} (h : l ≠ []) (n : Int) : minL (l ++ [n]) = min (minL l) n := by
  cases l with
  | nil => exact absurd rfl h
  | cons a l => simp [minL, List.foldl_append]
theorem maxL_snoc {l : List Int} (h : l ≠ []) (n : Int) : maxL (l ++ [n]) = max (maxL l) n := by
  cases l with
  | nil => exact absurd rfl h
  | cons a l => simp [maxL, List.foldl_append]
theorem totN_snoc (l : List Int) (n : Int) : totN (l ++ [n]) = totN l + n.toNat := by rw [totN_append]; simp [totN]
def StD.ok (s : StD) : Prop := I64 s.cnt ∧ I64 s.sum ∧ I64 s.least ∧ I64 s.most ∧ I64 s.mean
end

section
set_option linter.unusedSimpArgs false
set_option linter.unusedVariables false
open Go.RowKit Go.Lib

def twoV (n : Nat) : Value := .agg #[.int .u64 ((n / 18446744073709551616 : Nat) : Int), .int .u64 ((n % 18446744073709551616 : Nat) : Int)]
theorem or_fresh {x k : Nat} (h : 2 ^ (k + 1) ∣ x) : x ||| 2 ^ k = x + 2 ^ k := by
  obtain ⟨a, rfl⟩ := h
  exact (Nat.two_pow_add_eq_or_of_lt (Nat.pow_lt_pow_right (by decide) (by omega)) a).symm
def xD (n i : Nat) : Nat := n * 2 ^ i % 340282366920938463463374607431768211456
def aD (n i : Nat) : Nat := n / 2 ^ (128 - i)
def rD (n d i : Nat) : Nat := aD n i % d
def qD (n d i : Nat) : Nat := aD n i / d * 2 ^ (128 - i)
def bD (n i : Nat) : Nat := (n.testBit (127 - i)).toNat
theorem bD_le (n i : Nat) : bD n i ≤ 1 := by unfold bD; cases n.testBit (127 - i) <;> simp
theorem aD_succ {n i : Nat} (hi : i < 128) : aD n (i + 1) = 2 * aD n i + bD n i := by
  unfold aD bD
  have h := top_bit n (127 - i)
  rw [show 127 - i + 1 = 128 - i by omega] at h
  rw [show 128 - (i + 1) = 127 - i by omega]
  exact h
theorem pow128 : (340282366920938463463374607431768211456 : Nat) = 2 ^ 128 := by decide
theorem xD_bit {n i : Nat} (hi : i < 128) : xD n i / 170141183460469231731687303715884105728 = bD n i := by
  unfold xD bD
  rw [bit_nat]
  have e : (170141183460469231731687303715884105728 : Nat) = 2 ^ i * 2 ^ (127 - i) := by rw [← Nat.pow_add, show i + (127 - i) = 127 by omega]
  have e2 : (340282366920938463463374607431768211456 : Nat) = 170141183460469231731687303715884105728 * 2 := by decide
  rw [e2, Nat.mod_mul_right_div_self, e, ← Nat.div_div_eq_div_mul, Nat.mul_div_cancel _ (Nat.two_pow_pos i)]
theorem xD_succ (n i : Nat) : xD n (i + 1) = 2 * xD n i % 340282366920938463463374607431768211456 := by
  unfold xD
  rw [Nat.pow_succ, ← Nat.mul_assoc]
  generalize n * 2 ^ i = y
  omega
theorem xD_lt (n i : Nat) : xD n i < 340282366920938463463374607431768211456 := Nat.mod_lt _ (by decide)
theorem rD_lt {n d i : Nat} (hd : 0 < d) : rD n d i < d := Nat.mod_lt _ hd
theorem div_low {n d i : Nat} (hi : i < 128) (hd : 0 < d) (h : 2 * rD n d i + bD n i < d) : rD n d (i + 1) = 2 * rD n d i + bD n i ∧ qD n d (i + 1) = qD n d i := by
  unfold rD qD at *
  rw [aD_succ hi]
  have hm := Nat.div_add_mod (aD n i) d
  generalize aD n i / d = k at *
  generalize aD n i % d = r at *
  have e : 2 * aD n i + bD n i = d * (2 * k) + (2 * r + bD n i) := by rw [← hm, Nat.mul_left_comm]; omega
  rw [e, Nat.mul_add_mod, Nat.mod_eq_of_lt h, Nat.mul_add_div hd, Nat.div_eq_of_lt h]
  refine ⟨rfl, ?_⟩
  rw [show 128 - i = 128 - (i + 1) + 1 by omega, Nat.pow_succ, Nat.add_zero, Nat.mul_comm 2 k, Nat.mul_assoc, Nat.mul_comm 2]
theorem div_high {n d i : Nat} (hi : i < 128) (hd : 0 < d) (h : d ≤ 2 * rD n d i + bD n i) : rD n d (i + 1) = 2 * rD n d i + bD n i - d ∧ qD n d (i + 1) = qD n d i + 2 ^ (127 - i) := by
  have hr := rD_lt (n := n) (i := i) hd
  have hb := bD_le n i
  unfold rD qD at *
  rw [aD_succ hi]
  have hm := Nat.div_add_mod (aD n i) d
  generalize aD n i / d = k at *
  generalize aD n i % d = r at *
  have e : 2 * aD n i + bD n i = d * (2 * k + 1) + (2 * r + bD n i - d) := by
    have e1 : d * (2 * k + 1) = 2 * (d * k) + d := by rw [Nat.mul_add, Nat.mul_one, Nat.mul_left_comm]
    rw [← hm, e1]
    omega
  have hlt : 2 * r + bD n i - d < d := by omega
  rw [e, Nat.mul_add_mod, Nat.mod_eq_of_lt hlt, Nat.mul_add_div hd, Nat.div_eq_of_lt hlt]
  refine ⟨rfl, ?_⟩
  rw [show 128 - i = 128 - (i + 1) + 1 by omega, Nat.pow_succ, Nat.add_zero, Nat.add_mul, Nat.one_mul, show 128 - (i + 1) = 127 - i by omega, Nat.mul_comm 2 k, Nat.mul_assoc, Nat.mul_comm 2]
theorem qD_dvd (n d i : Nat) : 2 ^ (128 - i) ∣ qD n d i := Nat.dvd_mul_left _ _
theorem qD_zero {n d : Nat} (hn : n < 340282366920938463463374607431768211456) : qD n d 0 = 0 ∧ rD n d 0 = 0 ∧ xD n 0 = n := by
  have h : n / 340282366920938463463374607431768211456 = 0 := Nat.div_eq_of_lt hn
  refine ⟨?_, ?_, ?_⟩
  · unfold qD aD; rw [Nat.sub_zero, ← pow128, h, Nat.zero_div, Nat.zero_mul]
  · unfold rD aD; rw [Nat.sub_zero, ← pow128, h, Nat.zero_mod]
  · unfold xD; rw [Nat.pow_zero, Nat.mul_one, Nat.mod_eq_of_lt hn]
theorem qD_end (n d : Nat) : qD n d 128 = n / d ∧ rD n d 128 = n % d := by
  unfold qD rD aD
  simp
theorem qD_lt {n d i : Nat} (hn : n < 340282366920938463463374607431768211456) (hi : i ≤ 128) : qD n d i < 340282366920938463463374607431768211456 := by
  unfold qD aD
  have h1 := Nat.div_le_self (n / 2 ^ (128 - i)) d
  have h2 := Nat.mul_le_mul_right (2 ^ (128 - i)) h1
  have h3 := Nat.div_mul_le_self n (2 ^ (128 - i))
  omega
/-- The higher word gains a bit. -/
theorem q_hi {n d i : Nat} (hi : i < 64) (hn : n < 340282366920938463463374607431768211456) :
    (qD n d i + 2 ^ (127 - i)) / 18446744073709551616 = (qD n d i / 18446744073709551616 ||| 2 ^ (63 - i)) ∧ (qD n d i + 2 ^ (127 - i)) % 18446744073709551616 = qD n d i % 18446744073709551616 := by
  obtain ⟨m, hm⟩ := qD_dvd n d i
  have e1 : 2 ^ (127 - i) = 18446744073709551616 * 2 ^ (63 - i) := by
    rw [show 127 - i = 64 + (63 - i) by omega, Nat.pow_add]
  have e2 : 2 ^ (128 - i) = 18446744073709551616 * 2 ^ (63 - i + 1) := by
    rw [show 128 - i = 64 + (63 - i + 1) by omega, Nat.pow_add]
  have e3 : qD n d i / 18446744073709551616 = 2 ^ (63 - i + 1) * m := by
    rw [hm, e2, Nat.mul_assoc, Nat.mul_div_cancel_left _ (by decide)]
  constructor
  · rw [e3, or_fresh (Nat.dvd_mul_right _ _), hm, e1, e2, Nat.mul_assoc, ← Nat.mul_add, Nat.mul_div_cancel_left _ (by decide)]
  · rw [e1, Nat.add_mul_mod_self_left]
/-- The lower word gains a bit. -/
theorem q_lo {n d i : Nat} (h64 : 64 ≤ i) (hi : i < 128) :
    (qD n d i + 2 ^ (127 - i)) / 18446744073709551616 = qD n d i / 18446744073709551616 ∧ (qD n d i + 2 ^ (127 - i)) % 18446744073709551616 = (qD n d i % 18446744073709551616 ||| 2 ^ (127 - i)) := by
  have hd : 2 ^ (128 - i) ∣ qD n d i % 18446744073709551616 := by
    rw [Nat.dvd_mod_iff]
    · exact qD_dvd n d i
    · rw [show (18446744073709551616 : Nat) = 2 ^ 64 by decide]
      exact Nat.pow_dvd_pow 2 (by omega)
  have ho : (qD n d i % 18446744073709551616 ||| 2 ^ (127 - i)) = qD n d i % 18446744073709551616 + 2 ^ (127 - i) := or_fresh (by rw [show 127 - i + 1 = 128 - i by omega]; exact hd)
  have hlt : qD n d i % 18446744073709551616 + 2 ^ (127 - i) < 18446744073709551616 := by
    obtain ⟨m, hm⟩ := hd
    have hx := Nat.mod_lt (qD n d i) (show 0 < 18446744073709551616 by decide)
    have e : 18446744073709551616 = 2 ^ (128 - i) * 2 ^ (i - 64) := by rw [← Nat.pow_add, show 128 - i + (i - 64) = 64 by omega]
    have e1 : 2 ^ (128 - i) = 2 * 2 ^ (127 - i) := by rw [show 128 - i = 127 - i + 1 by omega, Nat.pow_succ, Nat.mul_comm]
    have hp := Nat.two_pow_pos (127 - i)
    rw [hm] at hx ⊢
    have hm2 : m < 2 ^ (i - 64) := by
      rw [e] at hx
      exact Nat.lt_of_mul_lt_mul_left hx
    have hm3 : 2 ^ (128 - i) * (m + 1) ≤ 2 ^ (128 - i) * 2 ^ (i - 64) := Nat.mul_le_mul_left _ hm2
    rw [Nat.mul_add, Nat.mul_one, ← e] at hm3
    omega
  rw [ho]
  generalize qD n d i = q at *
  generalize 2 ^ (127 - i) = p at *
  omega
/-- The words of a number that is doubled. -/
theorem dbl_words (x : Nat) (hx : x < 340282366920938463463374607431768211456) :
    (2 * x % 340282366920938463463374607431768211456) / 18446744073709551616 = 2 * (x / 18446744073709551616) % 18446744073709551616 + x % 18446744073709551616 / 9223372036854775808 ∧
    (2 * x % 340282366920938463463374607431768211456) % 18446744073709551616 = 2 * (x % 18446744073709551616) % 18446744073709551616 ∧ x / 18446744073709551616 / 9223372036854775808 = x / 170141183460469231731687303715884105728 := by
  omega
end

end Go.Proofs.YtfegielnmdppgaaGreat
