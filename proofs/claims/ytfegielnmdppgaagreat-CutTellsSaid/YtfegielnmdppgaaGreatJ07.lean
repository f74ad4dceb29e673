/- The plain law of ids: letters, their numbers, keys of ids, digits of keys. Nothing of the program; Walks of ident's functions: each computes what the plain law says; Configs, policies and calls as plain data; what is wrong with them; Walk of ident.Pack; The walk of ident's Cmp; Walks of ident's at, letter, Unpack, Right, Cmp; Walks of flywheelref03's place, Id, Key, Before; Walks of what checks configs, policies, calls: route.Right, node.Right, series.Right, policy.Check, store.Check, and the references' twins. -/
import Derived.Test.YtfegielnmdppgaaGreatJ01
namespace Go.Proofs.YtfegielnmdppgaaGreat

section
set_option linter.unusedSimpArgs false
set_option linter.unusedVariables false

def codeI (c : Int) : Int :=
  if c = 45 then 1 else if c = 46 then 2 else if 48 ≤ c ∧ c ≤ 57 then c - 45 else if c = 95 then 13 else if 97 ≤ c ∧ c ≤ 122 then c - 83 else 0

theorem codeI_bd (c : Int) : 0 ≤ codeI c ∧ codeI c ≤ 39 := by
  unfold codeI
  repeat' split
  all_goals omega

def codeB (b : UInt8) : Nat := (codeI b.toNat).toNat
def okB (b : UInt8) : Bool := decide (codeB b ≠ 0)

theorem codeB_le (b : UInt8) : codeB b ≤ 39 := by
  have := codeI_bd b.toNat
  unfold codeB; omega

/-- Letters keep their order as numbers. -/
theorem codeB_lt (a b : UInt8) (ha : okB a = true) (hb : okB b = true) : codeB a < codeB b ↔ a.toNat < b.toNat := by
  have ha' : codeB a ≠ 0 := by simpa [okB] using ha
  have hb' : codeB b ≠ 0 := by simpa [okB] using hb
  unfold codeB codeI at *
  have := a.toNat_lt
  have := b.toNat_lt
  generalize a.toNat = x at *
  generalize b.toNat = y at *
  repeat' split at ha'
  all_goals repeat' split at hb'
  all_goals first | omega | (simp at ha') | (simp at hb') | skip
  all_goals (repeat' split) <;> omega

theorem codeB_inj (a b : UInt8) (ha : okB a = true) (h : codeB a = codeB b) : a = b := by
  have hb : okB b = true := by simpa [okB, ← h] using ha
  have h1 := codeB_lt a b ha hb
  have h2 := codeB_lt b a hb ha
  exact UInt8.toNat_inj.1 (by omega)

def idL (l : List UInt8) : Bool := decide (1 ≤ l.length) && (decide (l.length ≤ 20) && l.all okB)

theorem idL_iff (l : List UInt8) : idL l = true ↔ 1 ≤ l.length ∧ l.length ≤ 20 ∧ ∀ b ∈ l, okB b = true := by
  simp [idL]

def dig (l : List UInt8) (i : Nat) : Nat := ((l[i]?).map codeB).getD 0

theorem dig_le (l : List UInt8) (i : Nat) : dig l i ≤ 39 := by
  unfold dig
  cases l[i]? with
  | none => simp
  | some b => simpa using codeB_le b

theorem dig_at (l : List UInt8) (i : Nat) (h : i < l.length) : dig l i = codeB l[i] := by simp [dig, h]
theorem dig_out (l : List UInt8) (i : Nat) (h : l.length ≤ i) : dig l i = 0 := by simp [dig, h]

def keyN (l : List UInt8) (a : Nat) : Nat → Nat
  | 0 => 0
  | n + 1 => keyN l a n * 64 + dig l (a + n)

/-- The j-th digit of a key. -/
theorem keyN_dig (l : List UInt8) (a : Nat) : ∀ n j, j < n → keyN l a n / 64 ^ (n - 1 - j) % 64 = dig l (a + j) := by
  intro n
  induction n with
  | zero => intro j h; omega
  | succ n ih =>
    intro j h
    have hd := dig_le l (a + n)
    rcases Nat.lt_or_ge j n with h1 | h1
    · have e : n + 1 - 1 - j = (n - 1 - j) + 1 := by omega
      rw [e, Nat.pow_succ, Nat.mul_comm (64 ^ _) 64, ← Nat.div_div_eq_div_mul, keyN]
      rw [show (keyN l a n * 64 + dig l (a + n)) / 64 = keyN l a n by omega]
      exact ih j h1
    · have e : n + 1 - 1 - j = 0 := by omega
      obtain rfl : j = n := by omega
      rw [e, keyN]
      simp
      omega

/-- Equal digits, equal lists (of letters). -/
theorem list_of_digs (l l' : List UInt8) (hl : ∀ b ∈ l, okB b = true) (hl' : ∀ b ∈ l', okB b = true) (n : Nat) (h1 : l.length ≤ n) (h2 : l'.length ≤ n)
    (h : ∀ j, j < n → dig l j = dig l' j) : l = l' := by
  have pos : ∀ (m : List UInt8), (∀ b ∈ m, okB b = true) → ∀ i, i < m.length → dig m i ≠ 0 := by
    intro m hm i hi
    rw [dig_at m i hi]
    simpa [okB] using hm _ (List.getElem_mem hi)
  have hlen : l.length = l'.length := by
    rcases Nat.lt_trichotomy l.length l'.length with hx | hx | hx
    · have := pos l' hl' l.length hx
      rw [← h _ (by omega), dig_out l _ (Nat.le_refl _)] at this
      omega
    · exact hx
    · have := pos l hl l'.length hx
      rw [h _ (by omega), dig_out l' _ (Nat.le_refl _)] at this
      omega
  refine List.ext_getElem hlen fun i hi hi' => ?_
  have := h i (by omega)
  rw [dig_at l i hi, dig_at l' i hi'] at this
  exact codeB_inj _ _ (hl _ (List.getElem_mem hi)) this

def hiN (l : List UInt8) : Nat := keyN l 0 10
def loN (l : List UInt8) : Nat := keyN l 10 10

/-- The digit of two words at a place. -/
def atN (hi lo i : Nat) : Nat := (if i < 10 then hi else lo) / 64 ^ (9 - i % 10) % 64

theorem atN_key (l : List UInt8) (i : Nat) (h : i < 20) : atN (hiN l) (loN l) i = dig l i := by
  unfold atN hiN loN
  split
  · rename_i h1
    rw [Nat.mod_eq_of_lt h1]
    have := keyN_dig l 0 10 i h1
    simpa using this
  · rename_i h1
    have e : i % 10 = i - 10 := by omega
    rw [e]
    have := keyN_dig l 10 10 (i - 10) (by omega)
    rw [show 10 + (i - 10) = i by omega] at this
    simpa using this

def IsKey (hi lo : Nat) (l : List UInt8) : Prop := idL l = true ∧ hiN l = hi ∧ loN l = lo

theorem IsKey.digs {hi lo : Nat} {l : List UInt8} (h : IsKey hi lo l) (i : Nat) (hi20 : i < 20) : atN hi lo i = dig l i := by
  obtain ⟨_, rfl, rfl⟩ := h
  exact atN_key l i hi20

theorem IsKey.one {hi lo : Nat} {l l' : List UInt8} (h : IsKey hi lo l) (h' : IsKey hi lo l') : l = l' := by
  obtain ⟨_, h2, h3⟩ := (idL_iff l).1 h.1
  obtain ⟨_, h2', h3'⟩ := (idL_iff l').1 h'.1
  exact list_of_digs l l' h3 h3' 20 h2 h2' fun j hj => by rw [← h.digs j hj, h'.digs j hj]

/-! ### The loop of Pack: words that are filled from the top -/
end

section
set_option linter.unusedSimpArgs false
set_option linter.unusedVariables false
open Go.RowKit Go.Lib
end

section
set_option linter.unusedSimpArgs false
set_option linter.unusedVariables false
open Go.RowKit Go.Lib

structure Cfg where
  st : Int
  sa : Int
  lo : Int
  hi : Int

structure Pol where
  mn : Int
  mx : Int
  tg : Int
  tol : Int
  win : Int
  hold : Int

structure CallD where
  kind : Int
  id : ByteArray
  tick : Int
  val : Int
  handle : Int
  pol : Pol

def I64 (n : Int) : Prop := -9223372036854775808 ≤ n ∧ n ≤ 9223372036854775807

def Cfg.ok (c : Cfg) : Prop := I64 c.st ∧ I64 c.sa ∧ I64 c.lo ∧ I64 c.hi
def Pol.ok (p : Pol) : Prop := I64 p.mn ∧ I64 p.mx ∧ I64 p.tg ∧ I64 p.tol ∧ I64 p.win ∧ I64 p.hold
def CallD.ok (c : CallD) : Prop := I64 c.kind ∧ c.id.size ≤ maxLen ∧ I64 c.tick ∧ I64 c.val ∧ I64 c.handle ∧ c.pol.ok

def cfgV (c : Cfg) : Value := .agg #[.int .i64 c.st, .int .i64 c.sa, .int .i64 c.lo, .int .i64 c.hi]
def polV (p : Pol) : Value := .agg #[.int .i64 p.mn, .int .i64 p.mx, .int .i64 p.tg, .int .i64 p.tol, .int .i64 p.win, .int .i64 p.hold]
def okSt (n : Int) : Bool := n == 1 || (n == 2 || (n == 4 || (n == 8 || (n == 16 || (n == 32 || n == 64)))))
def cfgB (c : Cfg) : Bool := okSt c.st && decide (1 ≤ c.sa ∧ c.sa ≤ 256 ∧ 1 ≤ c.lo ∧ c.lo ≤ 256 ∧ 1 ≤ c.hi ∧ c.hi ≤ 64)
def cfgE (c : Cfg) : Int := if cfgB c = true then 0 else 1
def serE (t v : Int) : Int := if t < 0 then 3 else if v < 0 then 4 else 0
def polB (p : Pol) : Bool := decide (0 ≤ p.mn ∧ 1 ≤ p.mx ∧ p.mn ≤ p.mx ∧ p.mx ≤ 1073741824 ∧ 1 ≤ p.tg ∧ 0 ≤ p.tol ∧ p.tol ≤ 999 ∧ 1 ≤ p.win ∧ 0 ≤ p.hold)
def polE (p : Pol) : Int := if polB p = true then 0 else 7
theorem okSt_iff (n : Int) : okSt n = true ↔ n = 1 ∨ n = 2 ∨ n = 4 ∨ n = 8 ∨ n = 16 ∨ n = 32 ∨ n = 64 := by
  simp [okSt]

def bitsI (n : Int) : Int := if n = 1 then 0 else if n = 2 then 1 else if n = 4 then 2 else if n = 8 then 3 else if n = 16 then 4 else if n = 32 then 5 else if n = 64 then 6 else -1
theorem bitsI_ok (n : Int) : decide (0 ≤ bitsI n) = okSt n := by
  rw [Bool.eq_iff_iff, okSt_iff, decide_eq_true_eq]
  unfold bitsI
  repeat' split
  all_goals omega
theorem bitsI_pow : ∀ k, k < 7 → bitsI ((2 ^ k : Nat) : Int) = (k : Nat) := by decide
theorem bitsI_none (n : Int) (h : ∀ j, j < 7 → n ≠ ((2 ^ j : Nat) : Int)) : bitsI n = -1 := by
  have h0 := h 0 (by omega)
  have h1 := h 1 (by omega)
  have h2 := h 2 (by omega)
  have h3 := h 3 (by omega)
  have h4 := h 4 (by omega)
  have h5 := h 5 (by omega)
  have h6 := h 6 (by omega)
  simp at h0 h1 h2 h3 h4 h5 h6
  simp [bitsI, *]

theorem okSt_bd (n : Int) (h : okSt n = true) : 1 ≤ n ∧ n ≤ 64 := by
  have := (okSt_iff n).1 h
  omega

theorem st_and : ∀ k, k < 65 → 1 ≤ k → (bits BinOp.and IntKind.i64 ((k : Nat) : Int) ((k : Nat) - 1 : Int) == 0) = okSt ((k : Nat) : Int) := by decide
end

section
set_option linter.unusedSimpArgs false
set_option linter.unusedVariables false
open Go.RowKit Go.Lib
end

section
set_option linter.unusedSimpArgs false
set_option linter.unusedVariables false
open Go.RowKit Go.Lib

def cmpI (a b c d : Nat) : Int := if a = c ∧ b = d then 0 else if a < c ∨ a = c ∧ b < d then -1 else 1
end

section
set_option linter.unusedSimpArgs false
set_option linter.unusedVariables false
open Go.RowKit Go.Lib
end

section
set_option linter.unusedSimpArgs false
set_option linter.unusedVariables false
open Go.RowKit Go.Lib

/-! ### Before: the order of bytes -/
end

section
set_option linter.unusedSimpArgs false
set_option linter.unusedVariables false
open Go.RowKit Go.Lib

set_option maxRecDepth 100000 in
set_option maxHeartbeats 1000000 in
theorem routeRight_any (n : Int) (w : World) (hn : I64 n) :
    Calls Tryz.prog 132 #[.int .i64 n] w fun e w' => e = .returned (.bool (okSt n)) ∧ w = w' := by
  obtain ⟨hn1, hn2⟩ := hn
  by_cases h1 : 1 ≤ n
  · by_cases h2 : n ≤ 64
    · obtain ⟨k, rfl⟩ := Int.eq_ofNat_of_zero_le (show 0 ≤ n by omega)
      have hq := st_and k (by omega) (by omega)
      generalize okSt (k : Int) = b at hq
      go_enter Tryz.func132, Tryz.ntmps132
      go_wp2
      go_ret
      exact ⟨rfl, rfl⟩
    · have hb : okSt n = false := by
        cases hb : okSt n with
        | false => rfl
        | true => exact absurd (okSt_bd n hb).2 h2
      rw [hb]
      go_enter Tryz.func132, Tryz.ntmps132
      go_wp2
      go_ret
      exact ⟨rfl, rfl⟩
  · have hb : okSt n = false := by
      cases hb : okSt n with
      | false => rfl
      | true => exact absurd (okSt_bd n hb).1 h1
    rw [hb]
    go_enter Tryz.func132, Tryz.ntmps132
    go_wp2
    go_ret
    exact ⟨rfl, rfl⟩

set_option maxRecDepth 100000 in
set_option maxHeartbeats 1000000 in
theorem nodeRight_any (c : Cfg) (w : World) (hc : c.ok) :
    Calls Tryz.prog 64 #[cfgV c] w fun e w' => e = .returned (.int .i64 (cfgE c)) ∧ Below w.heap.size w w' := by
  obtain ⟨st, sa, lo, hi⟩ := c
  obtain ⟨h1, h2, h3, h4⟩ := hc
  have H1 := Lib.hid h1
  simp only [I64] at h1 h2 h3 h4
  unfold cfgV
  cases hb : okSt st with
  | false =>
    have hf : cfgE ⟨st, sa, lo, hi⟩ = 1 := by simp [cfgE, cfgB, hb]
    rw [hf]
    have Hb := Lib.hid hb
    clear hb hf
    go_enter Tryz.func64, Tryz.ntmps64
    go_wp2_with (go_at_call 132; refine (routeRight_any _ _ H1.out).mono ?_; rw [Hb.out]; rintro e w' ⟨rfl, rfl⟩)
    all_goals
      go_ret
      exact ⟨rfl, (Below.refl _ _).alloc (Nat.le_refl _) _⟩
  | true =>
    have Hb := Lib.hid hb
    clear hb
    go_enter Tryz.func64, Tryz.ntmps64
    go_wp2_with (go_at_call 132; refine (routeRight_any _ _ H1.out).mono ?_; rw [Hb.out]; rintro e w' ⟨rfl, rfl⟩)
    all_goals
      go_ret
      refine ⟨ret_int ?_, (Below.refl _ _).alloc (Nat.le_refl _) _⟩
      simp only [cfgE, cfgB, Hb.out, Bool.true_and, decide_eq_true_eq]
      split <;> omega

set_option maxRecDepth 100000 in
set_option maxHeartbeats 1000000 in
theorem seriesRight_any (t v : Int) (w : World) :
    Calls Tryz.prog 105 #[.int .i64 t, .int .i64 v] w fun e w' => e = .returned (.int .i64 (serE t v)) ∧ w = w' := by
  go_enter Tryz.func105, Tryz.ntmps105
  go_wp2
  all_goals
    go_ret
    refine ⟨ret_int ?_, rfl⟩
    unfold serE
    repeat' split
    all_goals omega

set_option maxRecDepth 100000 in
set_option maxHeartbeats 1000000 in
theorem policyCheck_any (p : Pol) (w : World) :
    Calls Tryz.prog 106 #[polV p] w fun e w' => e = .returned (.int .i64 (polE p)) ∧ Below w.heap.size w w' := by
  obtain ⟨a, b, c, d, f, g⟩ := p
  unfold polV
  go_enter Tryz.func106, Tryz.ntmps106
  go_wp2
  all_goals
    go_ret
    refine ⟨ret_int ?_, (Below.refl _ _).alloc (Nat.le_refl _) _⟩
    simp only [polE, polB, decide_eq_true_eq]
    split <;> omega

set_option maxRecDepth 100000 in
set_option maxHeartbeats 1000000 in
theorem ref05Bits_any (n : Int) (w : World) :
    Calls Tryz.prog 48 #[.int .i64 n] w fun e w' => e = .returned (.int .i64 (bitsI n)) ∧ w = w' := by
  go_enter Tryz.func48, Tryz.ntmps48
  go_wp2
  go_loop [3, 4] (fun p b => ∃ k : Nat, k ≤ 7 ∧ b = .int .i64 k ∧ p = .int .i64 ((2 ^ k : Nat) : Int) ∧ ∀ j, j < k → n ≠ ((2 ^ j : Nat) : Int)) (fun _ b => 7 - (intOf b).toNat)
  case atStart => exact ⟨0, by omega, rfl, rfl, fun j hj => absurd hj (by omega)⟩
  case round =>
    obtain ⟨k, hk, rfl, rfl, hno⟩ := hrel
    by_cases hlt : k < 7
    · have hp : 2 ^ k ≤ 2 ^ 6 := Nat.pow_le_pow_right (by decide) (by omega)
      by_cases he : n = ((2 ^ k : Nat) : Int)
      · have hv := bitsI_pow k hlt
        rw [← he] at hv
        have hq : (n == ((2 ^ k : Nat) : Int)) = true := by simp [he]
        have Hv := Lib.hid hv
        clear hv he hno
        generalize 2 ^ k = m at *
        go_wp2
        go_ret
        exact ⟨ret_int Hv.out.symm, rfl⟩
      · have hq : (n == ((2 ^ k : Nat) : Int)) = false := by simpa using he
        have hno' : ∀ j, j < k + 1 → n ≠ ((2 ^ j : Nat) : Int) := by
          intro j hj
          rcases Nat.lt_or_ge j k with h | h
          · exact hno j h
          · obtain rfl : j = k := by omega
            exact he
        have Hno := Lib.hid hno'
        have hm : 2 ^ (k + 1) = 2 ^ k * 2 := Nat.pow_succ 2 k
        clear he hno hno'
        generalize hx : 2 ^ k = m at *
        have Hm := Lib.hid hm
        have Hx := Lib.hid hx
        clear hm hx
        go_wp2
        go_round
        case rel => exact ⟨k + 1, by omega, by go_num, by rw [Hm.out]; simp, Hno.out⟩
        case measure => simp [intOf]; omega
    · obtain rfl : k = 7 := by omega
      have hv := bitsI_none n hno
      have Hv := Lib.hid hv
      clear hv hno hlt hk
      go_wp2
      go_ret
      exact ⟨ret_int Hv.out.symm, rfl⟩

set_option maxRecDepth 100000 in
set_option maxHeartbeats 1000000 in
theorem ref17Right_any (c : Cfg) (w : World) :
    Calls Tryz.prog 11 #[cfgV c] w fun e w' => e = .returned (.bool (cfgB c)) ∧ Below w.heap.size w w' := by
  obtain ⟨st, sa, lo, hi⟩ := c
  unfold cfgV
  have hb := bitsI_ok st
  have Hb := Lib.hid hb
  clear hb
  go_enter Tryz.func11, Tryz.ntmps11
  go_wp2_with (go_at_call 48; refine (ref05Bits_any _ _).mono ?_; generalize bitsI st = b at *; rintro e w' ⟨rfl, rfl⟩)
  all_goals
    go_ret
    refine ⟨ret_bool ?_, (Below.refl _ _).alloc (Nat.le_refl _) _⟩
    have hb := Hb.out
    simp only [cfgB]
    rw [← hb, Bool.eq_iff_iff]
    simp only [Bool.and_eq_true, decide_eq_true_eq, Bool.false_eq_true, false_iff]
    omega

section
variable (id : ByteArray) (tick val handle a b tg tol win hold : Int) (w : World)

end
end

end Go.Proofs.YtfegielnmdppgaaGreat
