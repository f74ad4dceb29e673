/- Numbers of 128 bits, bit by bit: the plain law; What is told of samples, plainly: a window's first tick, the samples in it, their values; Numbers of two words: the plain law of a quotient, bit by bit. -/
import Derived.Test.YtfegielnmdppgaaGreatJ39
import Derived.Test.YtfegielnmdppgaaGreatJ06
namespace Go.Proofs.YtfegielnmdppgaaGreat

section
set_option linter.unusedSimpArgs false
set_option linter.unusedVariables false
open Go.RowKit Go.Lib

theorem bit_nat (n i : Nat) : (n.testBit i).toNat = n / 2 ^ i % 2 := by
  rw [Nat.testBit_eq_decide_div_mod_eq]
  have h := Nat.mod_two_eq_zero_or_one (n / 2 ^ i)
  rcases h with h | h <;> simp [h]
/-- What is carried into a bit. -/
def carN (a b i : Nat) : Nat := (a % 2 ^ i + b % 2 ^ i) / 2 ^ i
theorem carN_zero (a b : Nat) : carN a b 0 = 0 := by simp [carN, Nat.mod_one]
theorem carN_le (a b i : Nat) : carN a b i ≤ 1 := by
  unfold carN
  have hp : 0 < 2 ^ i := Nat.two_pow_pos i
  have h1 := Nat.mod_lt a hp
  have h2 := Nat.mod_lt b hp
  have : (a % 2 ^ i + b % 2 ^ i) / 2 ^ i < 2 := (Nat.div_lt_iff_lt_mul hp).2 (by omega)
  omega
theorem carN_succ (a b i : Nat) : carN a b (i + 1) = (carN a b i + (a.testBit i).toNat + (b.testBit i).toNat) / 2 := by
  unfold carN
  rw [Nat.pow_succ, Nat.mod_mul, Nat.mod_mul, ← bit_nat, ← bit_nat]
  have hp : 0 < 2 ^ i := Nat.two_pow_pos i
  generalize (a.testBit i).toNat = x
  generalize (b.testBit i).toNat = y
  rw [← Nat.div_div_eq_div_mul]
  congr 1
  have : a % 2 ^ i + 2 ^ i * x + (b % 2 ^ i + 2 ^ i * y) = (a % 2 ^ i + b % 2 ^ i) + 2 ^ i * (x + y) := by
    rw [Nat.mul_add]; omega
  rw [this, Nat.add_mul_div_left _ _ hp]
  omega
theorem sum_bit (a b i : Nat) : (a + b).testBit i = decide ((carN a b i + (a.testBit i).toNat + (b.testBit i).toNat) % 2 = 1) := by
  rw [Nat.testBit_eq_decide_div_mod_eq, bit_nat, bit_nat]
  unfold carN
  have hp : 0 < 2 ^ i := Nat.two_pow_pos i
  have ha := Nat.div_add_mod a (2 ^ i)
  have hb := Nat.div_add_mod b (2 ^ i)
  have : (a + b) / 2 ^ i = (a % 2 ^ i + b % 2 ^ i) / 2 ^ i + (a / 2 ^ i + b / 2 ^ i) := by
    have e : a + b = (a % 2 ^ i + b % 2 ^ i) + 2 ^ i * (a / 2 ^ i + b / 2 ^ i) := by rw [Nat.mul_add]; omega
    rw [e, Nat.add_mul_div_left _ _ hp]
  rw [this]
  congr 1
  apply propext
  omega
theorem carN_end (a b i : Nat) (ha : a < 2 ^ i) (hb : b < 2 ^ i) : carN a b i = (a + b) / 2 ^ i := by
  unfold carN
  rw [Nat.mod_eq_of_lt ha, Nat.mod_eq_of_lt hb]
/-- The bits of a number, as values. -/
def bitsL (f : Nat → Bool) : List Value := (List.range 128).map fun j => Value.bool (f j)
def numV (n : Nat) : Value := .agg (bitsL n.testBit).toArray
theorem bitsL_len (f : Nat → Bool) : (bitsL f).length = 128 := by simp [bitsL]
theorem bitsL_get (f : Nat → Bool) (j : Nat) (h : j < 128) : (bitsL f)[j]? = some (.bool (f j)) := by
  simp [bitsL, List.getElem?_map, List.getElem?_range h]
def updB (f : Nat → Bool) (i : Nat) (b : Bool) : Nat → Bool := fun j => if j = i then b else f j
theorem bitsL_set (f : Nat → Bool) (i : Nat) (b : Bool) (h : i < 128) : (bitsL f).set i (.bool b) = bitsL (updB f i b) := by
  apply List.ext_getElem?
  intro j
  by_cases hj : j < 128
  · rw [List.getElem?_set, bitsL_len, bitsL_get _ _ hj, bitsL_get _ _ hj]
    unfold updB
    by_cases e : i = j
    · subst e; simp [h]
    · rw [if_neg e, if_neg (fun q => e q.symm)]
  · rw [List.getElem?_eq_none (by simp [bitsL]; omega), List.getElem?_eq_none (by simp [bitsL]; omega)]
theorem bitsL_ext {f g : Nat → Bool} (h : ∀ j, j < 128 → f j = g j) : bitsL f = bitsL g := by
  unfold bitsL
  apply List.map_congr_left
  intro j hj
  rw [h j (List.mem_range.1 hj)]
theorem top_bit (n i : Nat) : n / 2 ^ i = 2 * (n / 2 ^ (i + 1)) + (n.testBit i).toNat := by
  rw [bit_nat, Nat.pow_succ, ← Nat.div_div_eq_div_mul]
  omega
/-- Which of two numbers is greater, by the highest bit that is unlike. -/
def cmpN (a b : Nat) : Int := if a = b then 0 else if a < b then -1 else 1
theorem cmpN_bit {a b i : Nat} (h : a / 2 ^ (i + 1) = b / 2 ^ (i + 1)) (hd : a.testBit i ≠ b.testBit i) : cmpN a b = if a.testBit i = true then 1 else -1 := by
  have ha := top_bit a i
  have hb := top_bit b i
  unfold cmpN
  cases hx : a.testBit i <;> cases hy : b.testBit i
  · rw [hx, hy] at hd; exact absurd rfl hd
  · rw [hx] at ha; rw [hy] at hb
    have hlt : a / 2 ^ i < b / 2 ^ i := by simp at ha hb; omega
    have : a < b := Nat.lt_of_not_le (fun q => by have := Nat.div_le_div_right (c := 2 ^ i) q; omega)
    rw [if_neg (by omega), if_pos this]; rfl
  · rw [hx] at ha; rw [hy] at hb
    have hlt : b / 2 ^ i < a / 2 ^ i := by simp at ha hb; omega
    have : b < a := Nat.lt_of_not_le (fun q => by have := Nat.div_le_div_right (c := 2 ^ i) q; omega)
    rw [if_neg (by omega), if_neg (by omega)]; rfl
  · rw [hx, hy] at hd; exact absurd rfl hd
theorem cmpN_next {a b i : Nat} (h : a / 2 ^ (i + 1) = b / 2 ^ (i + 1)) (hd : a.testBit i = b.testBit i) : a / 2 ^ i = b / 2 ^ i := by
  rw [top_bit a i, top_bit b i, h, hd]
/-- The sum of what is above 0. -/
def totN : List Int → Nat
  | [] => 0
  | n :: l => n.toNat + totN l
theorem totN_append : ∀ a b : List Int, totN (a ++ b) = totN a + totN b
  | [], b => by simp [totN]
  | n :: a, b => by simp [totN, totN_append a b]; omega
theorem totN_le {l : List Int} (h : ∀ n ∈ l, n ≤ 9223372036854775807) : totN l ≤ l.length * 9223372036854775807 := by
  induction l with
  | nil => simp [totN]
  | cons n l ih =>
    have h1 := h n (by simp)
    have h2 := ih (fun m hm => h m (by simp [hm]))
    simp only [totN, List.length_cons]
    omega
/-- A sum by a number, rounded up. -/
def meanN (l : List Int) : Nat := if l = [] then 0 else (totN l + (l.length - 1)) / l.length
theorem meanN_le {l : List Int} (h : ∀ n ∈ l, n ≤ 9223372036854775807) : meanN l ≤ 9223372036854775807 := by
  unfold meanN
  split
  · omega
  · rename_i hne
    have hp : 0 < l.length := List.length_pos_iff.2 hne
    have := totN_le h
    apply Nat.le_of_lt_succ
    rw [Nat.div_lt_iff_lt_mul hp]
    rw [Nat.mul_comm] at this
    generalize l.length = n at *
    have e : (9223372036854775807 + 1) * n = 9223372036854775807 * n + n := by omega
    rw [e]
    omega
theorem up_law {t d q : Nat} (hd : 0 < d) : (t ≤ q * d ∧ (q = 0 ∨ (q - 1) * d < t)) ↔ q = (t + (d - 1)) / d := by
  constructor
  · rintro ⟨h1, h2⟩
    symm
    rw [Nat.div_eq_iff hd]
    rcases h2 with rfl | h2
    · simp at h1
      subst h1
      constructor
      · omega
      · omega
    · have e : (q - 1) * d = q * d - d := by rw [Nat.sub_mul, Nat.one_mul]
      have : d ≤ q * d := by
        cases q with
        | zero => simp at h1 h2; omega
        | succ q => rw [Nat.succ_mul]; omega
      constructor
      · omega
      · omega
  · intro h
    have h1 := Nat.div_mul_le_self (t + (d - 1)) d
    have h2 : t + (d - 1) < ((t + (d - 1)) / d + 1) * d := Nat.lt_mul_of_div_lt (by omega) hd
    rw [← h] at h1 h2
    rw [Nat.succ_mul] at h2
    refine ⟨by omega, ?_⟩
    cases q with
    | zero => left; rfl
    | succ q =>
      right
      rw [Nat.succ_mul] at h1 h2
      simp
      omega
end

section
set_option linter.unusedSimpArgs false
set_option linter.unusedVariables false
open Go.RowKit Go.Lib

def fromW (til wd : Int) : Int := endsI (endsI (til - wd) + 1)
def winC (l : List Smp) (a b : Int) : List Smp := l.filter fun s => decide (a ≤ s.1) && decide (s.1 ≤ b)
def valsW (l : List Smp) : List Int := l.map fun s => max s.2 0
def minL : List Int → Int
  | [] => 0
  | n :: l => l.foldl min n
def maxL : List Int → Int
  | [] => 0
  | n :: l => l.foldl max n
/-- What a Stat has. -/
structure StD where
  cnt : Int
  sum : Int
  least : Int
  most : Int
  mean : Int
def stV (s : StD) : Value := .agg #[.int .i64 s.cnt, .int .i64 s.sum, .int .i64 s.least, .int .i64 s.most, .int .i64 s.mean]
def st0 : StD := ⟨0, 0, 0, 0, 0⟩
def statN (v : List Int) : StD := if v = [] then st0 else ⟨v.length, sumE v 0, minL v, maxL v, meanN v⟩
def statW (l : List Smp) (til wd : Int) : StD := statN (valsW (winC l (fromW til wd) til))
def smpI (l : List Smp) : Prop := ∀ s ∈ l, I64 s.1 ∧ I64 s.2
theorem smpI.cut {l : List Smp} (h : smpI l) (a b : Int) : smpI (winC l a b) := fun s hs => h s (List.mem_filter.1 hs).1
theorem vals_i64 {l : List Smp} (h : smpI l) : ∀ n ∈ valsW l, 0 ≤ n ∧ n ≤ 9223372036854775807 := fun n hn => by
  obtain ⟨s, hs, rfl⟩ := List.mem_map.1 hn
  have := (h s hs).2
  unfold I64 at this
  omega
theorem vals_len (l : List Smp) : (valsW l).length = l.length := by simp [valsW]
theorem cut_len (l : List Smp) (a b : Int) : (winC l a b).length ≤ l.length := List.length_filter_le _ _
theorem winC_snoc (l : List Smp) (a b : Int) (s : Smp) : winC (l ++ [s]) a b = winC l a b ++ if a ≤ s.1 ∧ s.1 ≤ b then [s] else [] := by
  unfold winC
  rw [List.filter_append]
  congr 1
  by_cases h1 : a ≤ s.1 <;> by_cases h2 : s.1 ≤ b <;> simp [h1, h2]
theorem valsW_snoc (l : List Smp) (s : Smp) : valsW (l ++ [s]) = valsW l ++ [max s.2 0] := by simp [valsW]
theorem minL_snoc {l : List Int} (h : l ≠ []) (n : Int) : minL (l ++ [n]) = min (minL l) n := by
  cases l with
  | nil => exact absurd rfl h
  | cons a l => simp [minL, List.foldl_append]
theorem maxL_snoc {l : List Int} (h : l ≠ []) (n : Int) : maxL (l ++ [n]) = max (maxL l) n := by
  cases l with
  | nil => exact absurd rfl h
  | cons a l => simp [maxL, List.foldl_append]
theorem totN_snoc (l : List Int) (n : Int) : totN (l ++ [n]) = totN l + n.toNat := by rw [totN_append]; simp [totN]
/-- A Stat of two. -/
def mergeW (a b : StD) : StD := if a.cnt < 1 then b else if b.cnt < 1 then a else ⟨endsI (a.cnt + b.cnt), endsI (a.sum + b.sum), min a.least b.least, max a.most b.most, ceilI (endsI (a.sum + b.sum)) (endsI (a.cnt + b.cnt))⟩
def StD.ok (s : StD) : Prop := I64 s.cnt ∧ I64 s.sum ∧ I64 s.least ∧ I64 s.most ∧ I64 s.mean
theorem st0_ok : st0.ok := by simp [StD.ok, st0, I64]
theorem minL_mem {l : List Int} (h : l ≠ []) : minL l ∈ l := by
  cases l with
  | nil => exact absurd rfl h
  | cons a l =>
    simp only [minL]
    clear h
    induction l generalizing a with
    | nil => simp
    | cons b l ih =>
      have := ih (min a b)
      simp only [List.foldl_cons, List.mem_cons] at this ⊢
      rcases this with h | h
      · rw [h]
        rcases Int.le_total a b with q | q
        · left; omega
        · right; left; omega
      · exact Or.inr (Or.inr h)
theorem maxL_mem {l : List Int} (h : l ≠ []) : maxL l ∈ l := by
  cases l with
  | nil => exact absurd rfl h
  | cons a l =>
    simp only [maxL]
    clear h
    induction l generalizing a with
    | nil => simp
    | cons b l ih =>
      have := ih (max a b)
      simp only [List.foldl_cons, List.mem_cons] at this ⊢
      rcases this with h | h
      · rw [h]
        rcases Int.le_total a b with q | q
        · right; left; omega
        · left; omega
      · exact Or.inr (Or.inr h)
theorem statN_ok {v : List Int} (h : ∀ n ∈ v, 0 ≤ n ∧ n ≤ 9223372036854775807) (hl : v.length ≤ 1000000) : (statN v).ok := by
  unfold statN
  split
  · exact st0_ok
  · rename_i hne
    have h1 := h _ (minL_mem hne)
    have h2 := h _ (maxL_mem hne)
    have h3 := meanN_le (fun n hn => (h n hn).2)
    refine ⟨?_, sumE_i64 v 0 i64_0, ?_, ?_, ?_⟩ <;> simp only [I64] <;> omega
theorem ceilI_ok {a b : Int} (h : I64 a) : I64 (ceilI a b) := by
  unfold ceilI I64 at *
  split
  · omega
  · rename_i hb
    split
    · have : a.tdiv b = -((-a) / b) := by rw [← Int.neg_neg a, Int.neg_tdiv, Int.tdiv_eq_ediv_of_nonneg (by omega)]; simp
      rw [this]
      have h3 : 0 ≤ (-a) / b := Int.ediv_nonneg (by omega) (by omega)
      have h4 : (-a) / b ≤ -a := Int.ediv_le_self _ (by omega)
      omega
    · rw [Int.tdiv_eq_ediv_of_nonneg (by omega)]
      have h3 : 0 ≤ (a - 1) / b := Int.ediv_nonneg (by omega) (by omega)
      have h4 : (a - 1) / b ≤ a - 1 := Int.ediv_le_self _ (by omega)
      omega
theorem mergeW_ok {a b : StD} (ha : a.ok) (hb : b.ok) : (mergeW a b).ok := by
  unfold mergeW
  split
  · exact hb
  · split
    · exact ha
    · refine ⟨endsI_i64 _, endsI_i64 _, ?_, ?_, ceilI_ok (endsI_i64 _)⟩
      · have h1 := ha.2.2.1; have h2 := hb.2.2.1; simp only [I64] at *; omega
      · have h1 := ha.2.2.2.1; have h2 := hb.2.2.2.1; simp only [I64] at *; omega
end

section
set_option linter.unusedSimpArgs false
set_option linter.unusedVariables false
open Go.RowKit Go.Lib

def twoV (n : Nat) : Value := .agg #[.int .u64 ((n / 18446744073709551616 : Nat) : Int), .int .u64 ((n % 18446744073709551616 : Nat) : Int)]
theorem or_fresh {x k : Nat} (h : 2 ^ (k + 1) ∣ x) : x ||| 2 ^ k = x + 2 ^ k := by
  obtain ⟨a, rfl⟩ := h
  exact (Nat.two_pow_add_eq_or_of_lt (Nat.pow_lt_pow_right (by decide) (by omega)) a).symm
def xD (n i : Nat) : Nat := n * 2 ^ i % 340282366920938463463374607431768211456
def aD (n i : Nat) : Nat := n / 2 ^ (128 - i)
def rD (n d i : Nat) : Nat := aD n i % d
def qD (n d i : Nat) : Nat := aD n i / d * 2 ^ (128 - i)
def bD (n i : Nat) : Nat := (n.testBit (127 - i)).toNat
theorem bD_le (n i : Nat) : bD n i ≤ 1 := by unfold bD; cases n.testBit (127 - i) <;> simp
theorem aD_succ {n i : Nat} (hi : i < 128) : aD n (i + 1) = 2 * aD n i + bD n i := by
  unfold aD bD
  have h := top_bit n (127 - i)
  rw [show 127 - i + 1 = 128 - i by omega] at h
  rw [show 128 - (i + 1) = 127 - i by omega]
  exact h
theorem pow128 : (340282366920938463463374607431768211456 : Nat) = 2 ^ 128 := by decide
theorem xD_bit {n i : Nat} (hi : i < 128) : xD n i / 170141183460469231731687303715884105728 = bD n i := by
  unfold xD bD
  rw [bit_nat]
  have e : (170141183460469231731687303715884105728 : Nat) = 2 ^ i * 2 ^ (127 - i) := by rw [← Nat.pow_add, show i + (127 - i) = 127 by omega]
  have e2 : (340282366920938463463374607431768211456 : Nat) = 170141183460469231731687303715884105728 * 2 := by decide
  rw [e2, Nat.mod_mul_right_div_self, e, ← Nat.div_div_eq_div_mul, Nat.mul_div_cancel _ (Nat.two_pow_pos i)]
theorem xD_succ (n i : Nat) : xD n (i + 1) = 2 * xD n i % 340282366920938463463374607431768211456 := by
  unfold xD
  rw [Nat.pow_succ, ← Nat.mul_assoc]
  generalize n * 2 ^ i = y
  omega
theorem xD_lt (n i : Nat) : xD n i < 340282366920938463463374607431768211456 := Nat.mod_lt _ (by decide)
theorem rD_lt {n d i : Nat} (hd : 0 < d) : rD n d i < d := Nat.mod_lt _ hd
theorem div_low {n d i : Nat} (hi : i < 128) (hd : 0 < d) (h : 2 * rD n d i + bD n i < d) : rD n d (i + 1) = 2 * rD n d i + bD n i ∧ qD n d (i + 1) = qD n d i := by
  unfold rD qD at *
  rw [aD_succ hi]
  have hm := Nat.div_add_mod (aD n i) d
  generalize aD n i / d = k at *
  generalize aD n i % d = r at *
  have e : 2 * aD n i + bD n i = d * (2 * k) + (2 * r + bD n i) := by rw [← hm, Nat.mul_left_comm]; omega
  rw [e, Nat.mul_add_mod, Nat.mod_eq_of_lt h, Nat.mul_add_div hd, Nat.div_eq_of_lt h]
  refine ⟨rfl, ?_⟩
  rw [show 128 - i = 128 - (i + 1) + 1 by omega, Nat.pow_succ, Nat.add_zero, Nat.mul_comm 2 k, Nat.mul_assoc, Nat.mul_comm 2]
theorem div_high {n d i : Nat} (hi : i < 128) (hd : 0 < d) (h : d ≤ 2 * rD n d i + bD n i) : rD n d (i + 1) = 2 * rD n d i + bD n i - d ∧ qD n d (i + 1) = qD n d i + 2 ^ (127 - i) := by
  have hr := rD_lt (n := n) (i := i) hd
  have hb := bD_le n i
  unfold rD qD at *
  rw [aD_succ hi]
  have hm := Nat.div_add_mod (aD n i) d
  generalize aD n i / d = k at *
  generalize aD n i % d = r at *
  have e : 2 * aD n i + bD n i = d * (2 * k + 1) + (2 * r + bD n i - d) := by
    have e1 : d * (2 * k + 1) = 2 * (d * k) + d := by rw [Nat.mul_add, Nat.mul_one, Nat.mul_left_comm]
    rw [← hm, e1]
    omega
  have hlt : 2 * r + bD n i - d < d := by omega
  rw [e, Nat.mul_add_mod, Nat.mod_eq_of_lt hlt, Nat.mul_add_div hd, Nat.div_eq_of_lt hlt]
  refine ⟨rfl, ?_⟩
  rw [show 128 - i = 128 - (i + 1) + 1 by omega, Nat.pow_succ, Nat.add_zero, Nat.add_mul, Nat.one_mul, show 128 - (i + 1) = 127 - i by omega, Nat.mul_comm 2 k, Nat.mul_assoc, Nat.mul_comm 2]
theorem qD_dvd (n d i : Nat) : 2 ^ (128 - i) ∣ qD n d i := Nat.dvd_mul_left _ _
theorem qD_zero {n d : Nat} (hn : n < 340282366920938463463374607431768211456) : qD n d 0 = 0 ∧ rD n d 0 = 0 ∧ xD n 0 = n := by
  have h : n / 340282366920938463463374607431768211456 = 0 := Nat.div_eq_of_lt hn
  refine ⟨?_, ?_, ?_⟩
  · unfold qD aD; rw [Nat.sub_zero, ← pow128, h, Nat.zero_div, Nat.zero_mul]
  · unfold rD aD; rw [Nat.sub_zero, ← pow128, h, Nat.zero_mod]
  · unfold xD; rw [Nat.pow_zero, Nat.mul_one, Nat.mod_eq_of_lt hn]
theorem qD_end (n d : Nat) : qD n d 128 = n / d ∧ rD n d 128 = n % d := by
  unfold qD rD aD
  simp
theorem qD_lt {n d i : Nat} (hn : n < 340282366920938463463374607431768211456) (hi : i ≤ 128) : qD n d i < 340282366920938463463374607431768211456 := by
  unfold qD aD
  have h1 := Nat.div_le_self (n / 2 ^ (128 - i)) d
  have h2 := Nat.mul_le_mul_right (2 ^ (128 - i)) h1
  have h3 := Nat.div_mul_le_self n (2 ^ (128 - i))
  omega
/-- The higher word gains a bit. -/
theorem q_hi {n d i : Nat} (hi : i < 64) (hn : n < 340282366920938463463374607431768211456) :
    (qD n d i + 2 ^ (127 - i)) / 18446744073709551616 = (qD n d i / 18446744073709551616 ||| 2 ^ (63 - i)) ∧ (qD n d i + 2 ^ (127 - i)) % 18446744073709551616 = qD n d i % 18446744073709551616 := by
  obtain ⟨m, hm⟩ := qD_dvd n d i
  have e1 : 2 ^ (127 - i) = 18446744073709551616 * 2 ^ (63 - i) := by
    rw [show 127 - i = 64 + (63 - i) by omega, Nat.pow_add]
  have e2 : 2 ^ (128 - i) = 18446744073709551616 * 2 ^ (63 - i + 1) := by
    rw [show 128 - i = 64 + (63 - i + 1) by omega, Nat.pow_add]
  have e3 : qD n d i / 18446744073709551616 = 2 ^ (63 - i + 1) * m := by
    rw [hm, e2, Nat.mul_assoc, Nat.mul_div_cancel_left _ (by decide)]
  constructor
  · rw [e3, or_fresh (Nat.dvd_mul_right _ _), hm, e1, e2, Nat.mul_assoc, ← Nat.mul_add, Nat.mul_div_cancel_left _ (by decide)]
  · rw [e1, Nat.add_mul_mod_self_left]
/-- The lower word gains a bit. -/
theorem q_lo {n d i : Nat} (h64 : 64 ≤ i) (hi : i < 128) :
    (qD n d i + 2 ^ (127 - i)) / 18446744073709551616 = qD n d i / 18446744073709551616 ∧ (qD n d i + 2 ^ (127 - i)) % 18446744073709551616 = (qD n d i % 18446744073709551616 ||| 2 ^ (127 - i)) := by
  have hd : 2 ^ (128 - i) ∣ qD n d i % 18446744073709551616 := by
    rw [Nat.dvd_mod_iff]
    · exact qD_dvd n d i
    · rw [show (18446744073709551616 : Nat) = 2 ^ 64 by decide]
      exact Nat.pow_dvd_pow 2 (by omega)
  have ho : (qD n d i % 18446744073709551616 ||| 2 ^ (127 - i)) = qD n d i % 18446744073709551616 + 2 ^ (127 - i) := or_fresh (by rw [show 127 - i + 1 = 128 - i by omega]; exact hd)
  have hlt : qD n d i % 18446744073709551616 + 2 ^ (127 - i) < 18446744073709551616 := by
    obtain ⟨m, hm⟩ := hd
    have hx := Nat.mod_lt (qD n d i) (show 0 < 18446744073709551616 by decide)
    have e : 18446744073709551616 = 2 ^ (128 - i) * 2 ^ (i - 64) := by rw [← Nat.pow_add, show 128 - i + (i - 64) = 64 by omega]
    have e1 : 2 ^ (128 - i) = 2 * 2 ^ (127 - i) := by rw [show 128 - i = 127 - i + 1 by omega, Nat.pow_succ, Nat.mul_comm]
    have hp := Nat.two_pow_pos (127 - i)
    rw [hm] at hx ⊢
    have hm2 : m < 2 ^ (i - 64) := by
      rw [e] at hx
      exact Nat.lt_of_mul_lt_mul_left hx
    have hm3 : 2 ^ (128 - i) * (m + 1) ≤ 2 ^ (128 - i) * 2 ^ (i - 64) := Nat.mul_le_mul_left _ hm2
    rw [Nat.mul_add, Nat.mul_one, ← e] at hm3
    omega
  rw [ho]
  generalize qD n d i = q at *
  generalize 2 ^ (127 - i) = p at *
  omega
/-- The words of a number that is doubled. -/
theorem dbl_words (x : Nat) (hx : x < 340282366920938463463374607431768211456) :
    (2 * x % 340282366920938463463374607431768211456) / 18446744073709551616 = 2 * (x / 18446744073709551616) % 18446744073709551616 + x % 18446744073709551616 / 9223372036854775808 ∧
    (2 * x % 340282366920938463463374607431768211456) % 18446744073709551616 = 2 * (x % 18446744073709551616) % 18446744073709551616 ∧ x / 18446744073709551616 / 9223372036854775808 = x / 170141183460469231731687303715884105728 := by
  omega
end

end Go.Proofs.YtfegielnmdppgaaGreat
