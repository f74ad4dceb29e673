/- Configs, policies and calls as plain data; what is wrong with them; Numbers as bytes, seven bits a byte: plain. -/
import Derived.Test.YtmndhffimlkjgaaDoorJ02
namespace Go.Proofs.YtmndhffimlkjgaaDoor

section
set_option linter.unusedSimpArgs false
set_option linter.unusedVariables false
open Go.RowKit Go.Lib

structure Cfg where
  st : Int
  sa : Int
  lo : Int
  hi : Int

structure Pol where
  mn : Int
  mx : Int
  tg : Int
  tol : Int
  win : Int
  hold : Int

structure CallD where
  kind : Int
  id : ByteArray
  tick : Int
  val : Int
  handle : Int
  pol : Pol

def I64 (n : Int) : Prop := -9223372036854775808 ≤ n ∧ n ≤ 9223372036854775807

def Cfg.ok (c : Cfg) : Prop := I64 c.st ∧ I64 c.sa ∧ I64 c.lo ∧ I64 c.hi
def Pol.ok (p : Pol) : Prop := I64 p.mn ∧ I64 p.mx ∧ I64 p.tg ∧ I64 p.tol ∧ I64 p.win ∧ I64 p.hold
def CallD.ok (c : CallD) : Prop := I64 c.kind ∧ c.id.size ≤ maxLen ∧ I64 c.tick ∧ I64 c.val ∧ I64 c.handle ∧ c.pol.ok

def cfgV (c : Cfg) : Value := .agg #[.int .i64 c.st, .int .i64 c.sa, .int .i64 c.lo, .int .i64 c.hi]
def polV (p : Pol) : Value := .agg #[.int .i64 p.mn, .int .i64 p.mx, .int .i64 p.tg, .int .i64 p.tol, .int .i64 p.win, .int .i64 p.hold]
def callCells (c : CallD) : List Value := [.int .i64 c.kind, .string c.id, .int .i64 c.tick, .int .i64 c.val, .int .i64 c.handle, .int .i64 c.pol.mn, .int .i64 c.pol.mx, .int .i64 c.pol.tg, .int .i64 c.pol.tol, .int .i64 c.pol.win, .int .i64 c.pol.hold]
def callV (c : CallD) : Value := .agg #[.int .i64 c.kind, .string c.id, .int .i64 c.tick, .int .i64 c.val, .int .i64 c.handle, .int .i64 c.pol.mn, .int .i64 c.pol.mx, .int .i64 c.pol.tg, .int .i64 c.pol.tol, .int .i64 c.pol.win, .int .i64 c.pol.hold]

def okSt (n : Int) : Bool := n == 1 || (n == 2 || (n == 4 || (n == 8 || (n == 16 || (n == 32 || n == 64)))))
def cfgB (c : Cfg) : Bool := okSt c.st && decide (1 ≤ c.sa ∧ c.sa ≤ 256 ∧ 1 ≤ c.lo ∧ c.lo ≤ 256 ∧ 1 ≤ c.hi ∧ c.hi ≤ 64)
def cfgE (c : Cfg) : Int := if cfgB c = true then 0 else 1
def serE (t v : Int) : Int := if t < 0 then 3 else if v < 0 then 4 else 0
def polB (p : Pol) : Bool := decide (0 ≤ p.mn ∧ 1 ≤ p.mx ∧ p.mn ≤ p.mx ∧ p.mx ≤ 1073741824 ∧ 1 ≤ p.tg ∧ 0 ≤ p.tol ∧ p.tol ≤ 999 ∧ 1 ≤ p.win ∧ 0 ≤ p.hold)
def polE (p : Pol) : Int := if polB p = true then 0 else 7
def chkC (c : CallD) : Int :=
  if c.kind < 1 ∨ 8 < c.kind then 14
  else if (c.kind = 1 ∨ c.kind = 5 ∨ c.kind = 6 ∨ c.kind = 7) ∧ idS c.id = false then 2
  else if c.kind = 1 then serE c.tick c.val
  else if c.kind = 2 ∧ c.tick < 0 then 3
  else if c.kind = 6 ∧ polB c.pol = false then 7
  else 0

theorem okSt_iff (n : Int) : okSt n = true ↔ n = 1 ∨ n = 2 ∨ n = 4 ∨ n = 8 ∨ n = 16 ∨ n = 32 ∨ n = 64 := by
  simp [okSt]

def bitsI (n : Int) : Int := if n = 1 then 0 else if n = 2 then 1 else if n = 4 then 2 else if n = 8 then 3 else if n = 16 then 4 else if n = 32 then 5 else if n = 64 then 6 else -1
theorem bitsI_ok (n : Int) : decide (0 ≤ bitsI n) = okSt n := by
  rw [Bool.eq_iff_iff, okSt_iff, decide_eq_true_eq]
  unfold bitsI
  repeat' split
  all_goals omega
theorem bitsI_pow : ∀ k, k < 7 → bitsI ((2 ^ k : Nat) : Int) = (k : Nat) := by decide
theorem bitsI_none (n : Int) (h : ∀ j, j < 7 → n ≠ ((2 ^ j : Nat) : Int)) : bitsI n = -1 := by
  have h0 := h 0 (by omega)
  have h1 := h 1 (by omega)
  have h2 := h 2 (by omega)
  have h3 := h 3 (by omega)
  have h4 := h 4 (by omega)
  have h5 := h 5 (by omega)
  have h6 := h 6 (by omega)
  simp at h0 h1 h2 h3 h4 h5 h6
  simp [bitsI, *]

theorem okSt_bd (n : Int) (h : okSt n = true) : 1 ≤ n ∧ n ≤ 64 := by
  have := (okSt_iff n).1 h
  omega

theorem st_and : ∀ k, k < 65 → 1 ≤ k → (bits BinOp.and IntKind.i64 ((k : Nat) : Int) ((k : Nat) - 1 : Int) == 0) = okSt ((k : Nat) : Int) := by decide

theorem chkC_bd (c : CallD) : 0 ≤ chkC c ∧ chkC c ≤ 14 := by
  unfold chkC serE
  repeat' split
  all_goals omega
end

section
set_option linter.unusedSimpArgs false
set_option linter.unusedVariables false

def zigN (n : Int) : Nat := if 0 ≤ n then 2 * n.toNat else 2 * (-1 - n).toNat + 1
def zagN (w : Nat) : Int := if w % 2 = 0 then ((w / 2 : Nat) : Int) else -1 - ((w / 2 : Nat) : Int)
theorem zag_zig (n : Int) : zagN (zigN n) = n := by
  unfold zigN zagN
  split <;> (rename_i h; split <;> omega)
theorem zig_lt {n : Int} (h : I64 n) : zigN n < 18446744073709551616 := by
  unfold I64 at h
  unfold zigN
  split <;> omega
theorem zag_i64 {w : Nat} (h : w < 18446744073709551616) : I64 (zagN w) := by
  unfold I64 zagN
  split <;> omega

def varB (w : Nat) : List UInt8 := if h : w < 128 then [UInt8.ofNat w] else UInt8.ofNat (w % 128 + 128) :: varB (w / 128)
termination_by w
decreasing_by omega
theorem varB_small {w : Nat} (h : w < 128) : varB w = [UInt8.ofNat w] := by rw [varB, dif_pos h]
theorem varB_big {w : Nat} (h : ¬ w < 128) : varB w = UInt8.ofNat (w % 128 + 128) :: varB (w / 128) := by rw [varB, dif_neg h]
theorem varB_ne (w : Nat) : varB w ≠ [] := by
  by_cases h : w < 128
  · rw [varB_small h]; simp
  · rw [varB_big h]; simp
theorem varB_len : ∀ k w, w < 128 ^ (k + 1) → (varB w).length ≤ k + 1 := by
  intro k
  induction k with
  | zero => intro w hw; rw [varB_small (by simpa using hw)]; simp
  | succ k ih =>
    intro w hw
    by_cases h : w < 128
    · rw [varB_small h]; simp
    · rw [varB_big h, List.length_cons]
      have := ih (w / 128) (by rw [Nat.pow_succ] at hw; exact Nat.div_lt_of_lt_mul (by omega))
      omega
theorem varB_ten {w : Nat} (h : w < 18446744073709551616) : (varB w).length ≤ 10 := varB_len 9 w (by omega)

def zput (n : Int) : List UInt8 := varB (zigN n)
def zputs (l : List Int) : List UInt8 := l.flatMap zput
theorem zput_ne (n : Int) : zput n ≠ [] := varB_ne _
theorem zput_ten {n : Int} (h : I64 n) : (zput n).length ≤ 10 := varB_ten (zig_lt h)
theorem zputs_len {l : List Int} (h : ∀ n ∈ l, I64 n) : (zputs l).length ≤ 10 * l.length := by
  induction l with
  | nil => simp [zputs]
  | cons n l ih =>
    have h1 := zput_ten (h n (List.mem_cons_self ..))
    have h2 := ih (fun m hm => h m (List.mem_cons_of_mem _ hm))
    simp only [zputs, List.flatMap_cons, List.length_append, List.length_cons] at h2 ⊢
    omega

/-- What bytes begin with: a number, how many bytes it has, an error. -/
def getF : List UInt8 → Nat → Nat → Int × Nat × Int
  | [], _, _ => (0, 0, 11)
  | c :: r, i, w =>
    if (i = 9 ∧ 1 < c.toNat) ∨ (c.toNat = 0 ∧ 0 < i) then (0, 0, 10)
    else if c.toNat < 128 then (zagN (w + c.toNat % 128 * 128 ^ i), i + 1, 0)
    else getF r (i + 1) (w + c.toNat % 128 * 128 ^ i)
def getZ (b : List UInt8) : Int × Nat × Int := getF b 0 0
theorem getF_size : ∀ (b : List UInt8) (i w : Nat), (getF b i w).2.2 = 0 → i < (getF b i w).2.1 ∧ (getF b i w).2.1 ≤ i + b.length := by
  intro b
  induction b with
  | nil => intro i w h; simp [getF] at h
  | cons c r ih =>
    intro i w h
    unfold getF at h ⊢
    split
    · rename_i hc; rw [if_pos hc] at h; simp at h
    · rename_i hc
      rw [if_neg hc] at h
      split
      · simp
      · rename_i hd
        rw [if_neg hd] at h
        have := ih _ _ h
        simp only [List.length_cons]
        omega
theorem getZ_size {b : List UInt8} (h : (getZ b).2.2 = 0) : 0 < (getZ b).2.1 ∧ (getZ b).2.1 ≤ b.length := by
  have := getF_size b 0 0 h
  unfold getZ
  omega
theorem getF_i64 : ∀ (b : List UInt8) (i w : Nat), i ≤ 9 → w < 128 ^ i → I64 (getF b i w).1 := by
  intro b
  induction b with
  | nil => intro i w _ _; simp [getF, I64]
  | cons c r ih =>
    intro i w hi hw
    unfold getF
    have hc := c.toNat_lt
    split
    · simp [I64]
    · rename_i hn
      have hlt : w + c.toNat % 128 * 128 ^ i < 128 ^ (i + 1) := by
        rw [Nat.pow_succ]
        have h1 : c.toNat % 128 < 128 := Nat.mod_lt _ (by decide)
        have h2 : c.toNat % 128 * 128 ^ i ≤ 127 * 128 ^ i := Nat.mul_le_mul_right _ (by omega)
        omega
      split
      · rename_i hd
        refine zag_i64 ?_
        by_cases h9 : i = 9
        · subst h9
          have h3 : c.toNat ≤ 1 := by omega
          have h4 : c.toNat % 128 ≤ 1 := by omega
          have h5 : c.toNat % 128 * 128 ^ 9 ≤ 1 * 128 ^ 9 := Nat.mul_le_mul_right _ h4
          omega
        · have h6 : 128 ^ (i + 1) ≤ 128 ^ 9 := Nat.pow_le_pow_right (by decide) (by omega)
          omega
      · rename_i hd
        by_cases h9 : i = 9
        · subst h9; omega
        · exact ih _ _ (by omega) hlt
theorem getZ_i64 (b : List UInt8) : I64 (getZ b).1 := getF_i64 b 0 0 (by omega) (by simp)
theorem ofNat_toNat {n : Nat} (h : n < 256) : (UInt8.ofNat n).toNat = n := by simp [UInt8.toNat_ofNat, Nat.mod_eq_of_lt h]

/-- What was put is got. -/
theorem getF_var (rest : List UInt8) : ∀ (k w v i : Nat), k + i = 9 → (i = 0 ∨ 0 < w) → w < 2 * 128 ^ k → getF (varB w ++ rest) i v = (zagN (v + w * 128 ^ i), i + (varB w).length, 0) := by
  intro k
  induction k with
  | zero =>
    intro w v i hk h0 hw
    have hw1 : w < 2 := by simpa using hw
    rw [varB_small (by omega)]
    simp only [List.cons_append, List.nil_append]
    unfold getF
    rw [ofNat_toNat (by omega), if_neg (by omega), if_pos (by omega), Nat.mod_eq_of_lt (by omega)]
    simp
  | succ k ih =>
    intro w v i hk h0 hw
    by_cases h : w < 128
    · rw [varB_small h]
      simp only [List.cons_append, List.nil_append]
      unfold getF
      rw [ofNat_toNat (by omega), if_neg (by omega), if_pos h, Nat.mod_eq_of_lt h]
      simp
    · rw [varB_big h]
      simp only [List.cons_append]
      unfold getF
      rw [ofNat_toNat (by omega), if_neg (by omega), if_neg (by omega)]
      have e1 : (w % 128 + 128) % 128 = w % 128 := by omega
      rw [e1, ih (w / 128) _ (i + 1) (by omega) (.inr (by omega)) (by rw [Nat.pow_succ] at hw; omega)]
      have e2 : v + w % 128 * 128 ^ i + w / 128 * 128 ^ (i + 1) = v + w * 128 ^ i := by
        rw [Nat.pow_succ, Nat.mul_comm (128 ^ i) 128, ← Nat.mul_assoc, Nat.add_assoc, ← Nat.add_mul]
        congr 2
        omega
      rw [e2, List.length_cons]
      simp only [Prod.mk.injEq, true_and, and_true]
      omega
theorem getZ_put {n : Int} (h : I64 n) (rest : List UInt8) : getZ (zput n ++ rest) = (n, (zput n).length, 0) := by
  have hl := zig_lt h
  have := getF_var rest 9 (zigN n) 0 0 (by omega) (.inl rfl) (by omega)
  unfold getZ zput
  rw [this]
  simp [zag_zig]

/-- All numbers of bytes, if they are that. -/
def allZ : Nat → List UInt8 → Option (List Int)
  | 0, _ => none
  | f + 1, b => if b = [] then some [] else if (getZ b).2.2 = 0 then (allZ f (b.drop (getZ b).2.1)).map ((getZ b).1 :: ·) else none
def allB (b : List UInt8) : Option (List Int) := allZ (b.length + 1) b
theorem allZ_fuel : ∀ (f g : Nat) (b : List UInt8), b.length < f → b.length < g → allZ f b = allZ g b := by
  intro f
  induction f with
  | zero => intro g b h _; omega
  | succ f ih =>
    intro g b h1 h2
    obtain ⟨g, rfl⟩ : ∃ k, g = k + 1 := ⟨g - 1, by omega⟩
    unfold allZ
    split
    · rfl
    · split
      · rename_i hz
        have := getZ_size hz
        rw [ih g _ (by simp; omega) (by simp; omega)]
      · rfl
theorem allB_nil : allB [] = some [] := by simp [allB, allZ]
theorem allB_bad {b : List UInt8} (h : b ≠ []) (he : (getZ b).2.2 ≠ 0) : allB b = none := by
  unfold allB allZ
  rw [if_neg h, if_neg he]
theorem allB_step {b : List UInt8} (h : b ≠ []) (he : (getZ b).2.2 = 0) : allB b = (allB (b.drop (getZ b).2.1)).map ((getZ b).1 :: ·) := by
  have := getZ_size he
  unfold allB
  rw [show allZ (b.length + 1) b = (allZ b.length (b.drop (getZ b).2.1)).map ((getZ b).1 :: ·) by rw [allZ, if_neg h, if_pos he]]
  rw [allZ_fuel b.length ((b.drop (getZ b).2.1).length + 1) _ (by simp; omega) (by simp)]
theorem allB_i64 : ∀ (k : Nat) (b : List UInt8) (l : List Int), b.length ≤ k → allB b = some l → ∀ n ∈ l, I64 n := by
  intro k
  induction k with
  | zero =>
    intro b l hk h n hn
    obtain rfl : b = [] := List.eq_nil_of_length_eq_zero (by omega)
    rw [allB_nil] at h
    simp only [Option.some.injEq] at h
    subst h
    cases hn
  | succ k ih =>
    intro b l hk h n hn
    by_cases hb : b = []
    · subst hb
      rw [allB_nil] at h
      simp only [Option.some.injEq] at h
      subst h
      cases hn
    · by_cases he : (getZ b).2.2 = 0
      · rw [allB_step hb he] at h
        obtain ⟨m, hm, rfl⟩ := Option.map_eq_some_iff.1 h
        have hs := getZ_size he
        rcases List.mem_cons.1 hn with rfl | hn
        · exact getZ_i64 b
        · exact ih _ m (by simp; omega) hm n hn
      · rw [allB_bad hb he] at h
        cases h
theorem allB_put : ∀ (l : List Int), (∀ n ∈ l, I64 n) → allB (zputs l) = some l := by
  intro l
  induction l with
  | nil => intro _; exact allB_nil
  | cons n l ih =>
    intro h
    have h1 := getZ_put (h n (List.mem_cons_self ..)) (zputs l)
    have hne : zput n ++ zputs l ≠ [] := by simp [zput_ne]
    have e : zputs (n :: l) = zput n ++ zputs l := rfl
    rw [e, allB_step hne (by rw [h1]), h1]
    simp only [List.drop_left]
    rw [ih (fun m hm => h m (List.mem_cons_of_mem _ hm))]
    rfl
end

end Go.Proofs.YtmndhffimlkjgaaDoor
