/- Configs, policies and calls as plain data; what is wrong with them; Walk of ident.Pack; Walks of ident's at, letter, Unpack, Right, Cmp. -/
import Derived.Test.YtfegielnmdppgaaJ25
import Derived.Test.YtfegielnmdppgaaJ08
namespace Go.Proofs.Ytfegielnmdppgaa

section
set_option linter.unusedSimpArgs false
set_option linter.unusedVariables false
open Go.RowKit Go.Lib

structure Cfg where
  st : Int
  sa : Int
  lo : Int
  hi : Int

structure Pol where
  mn : Int
  mx : Int
  tg : Int
  tol : Int
  win : Int
  hold : Int

structure CallD where
  kind : Int
  id : ByteArray
  tick : Int
  val : Int
  handle : Int
  pol : Pol

def I64 (n : Int) : Prop := -9223372036854775808 ≤ n ∧ n ≤ 9223372036854775807

def Cfg.ok (c : Cfg) : Prop := I64 c.st ∧ I64 c.sa ∧ I64 c.lo ∧ I64 c.hi
def Pol.ok (p : Pol) : Prop := I64 p.mn ∧ I64 p.mx ∧ I64 p.tg ∧ I64 p.tol ∧ I64 p.win ∧ I64 p.hold
def CallD.ok (c : CallD) : Prop := I64 c.kind ∧ c.id.size ≤ maxLen ∧ I64 c.tick ∧ I64 c.val ∧ I64 c.handle ∧ c.pol.ok

def cfgV (c : Cfg) : Value := .agg #[.int .i64 c.st, .int .i64 c.sa, .int .i64 c.lo, .int .i64 c.hi]
def polV (p : Pol) : Value := .agg #[.int .i64 p.mn, .int .i64 p.mx, .int .i64 p.tg, .int .i64 p.tol, .int .i64 p.win, .int .i64 p.hold]
def callCells (c : CallD) : List Value := [.int .i64 c.kind, .string c.id, .int .i64 c.tick, .int .i64 c.val, .int .i64 c.handle, .int .i64 c.pol.mn, .int .i64 c.pol.mx, .int .i64 c.pol.tg, .int .i64 c.pol.tol, .int .i64 c.pol.win, .int .i64 c.pol.hold]
def callV (c : CallD) : Value := .agg #[.int .i64 c.kind, .string c.id, .int .i64 c.tick, .int .i64 c.val, .int .i64 c.handle, .int .i64 c.pol.mn, .int .i64 c.pol.mx, .int .i64 c.pol.tg, .int .i64 c.pol.tol, .int .i64 c.pol.win, .int .i64 c.pol.hold]

def okSt (n : Int) : Bool := n == 1 || (n == 2 || (n == 4 || (n == 8 || (n == 16 || (n == 32 || n == 64)))))
def cfgB (c : Cfg) : Bool := okSt c.st && decide (1 ≤ c.sa ∧ c.sa ≤ 256 ∧ 1 ≤ c.lo ∧ c.lo ≤ 256 ∧ 1 ≤ c.hi ∧ c.hi ≤ 64)
def cfgE (c : Cfg) : Int := if cfgB c = true then 0 else 1
def serE (t v : Int) : Int := if t < 0 then 3 else if v < 0 then 4 else 0
def polB (p : Pol) : Bool := decide (0 ≤ p.mn ∧ 1 ≤ p.mx ∧ p.mn ≤ p.mx ∧ p.mx ≤ 1073741824 ∧ 1 ≤ p.tg ∧ 0 ≤ p.tol ∧ p.tol ≤ 999 ∧ 1 ≤ p.win ∧ 0 ≤ p.hold)
def polE (p : Pol) : Int := if polB p = true then 0 else 7
def chkC (c : CallD) : Int :=
  if c.kind < 1 ∨ 8 < c.kind then 14
  else if (c.kind = 1 ∨ c.kind = 5 ∨ c.kind = 6 ∨ c.kind = 7) ∧ idS c.id = false then 2
  else if c.kind = 1 then serE c.tick c.val
  else if c.kind = 2 ∧ c.tick < 0 then 3
  else if c.kind = 6 ∧ polB c.pol = false then 7
  else 0

theorem okSt_iff (n : Int) : okSt n = true ↔ n = 1 ∨ n = 2 ∨ n = 4 ∨ n = 8 ∨ n = 16 ∨ n = 32 ∨ n = 64 := by
  simp [okSt]

def bitsI (n : Int) : Int := if n = 1 then 0 else if n = 2 then 1 else if n = 4 then 2 else if n = 8 then 3 else if n = 16 then 4 else if n = 32 then 5 else if n = 64 then 6 else -1
theorem bitsI_ok (n : Int) : decide (0 ≤ bitsI n) = okSt n := by
  rw [Bool.eq_iff_iff, okSt_iff, decide_eq_true_eq]
  unfold bitsI
  repeat' split
  all_goals omega
theorem bitsI_pow : ∀ k, k < 7 → bitsI ((2 ^ k : Nat) : Int) = (k : Nat) := by decide
theorem bitsI_none (n : Int) (h : ∀ j, j < 7 → n ≠ ((2 ^ j : Nat) : Int)) : bitsI n = -1 := by
  have h0 := h 0 (by omega)
  have h1 := h 1 (by omega)
  have h2 := h 2 (by omega)
  have h3 := h 3 (by omega)
  have h4 := h 4 (by omega)
  have h5 := h 5 (by omega)
  have h6 := h 6 (by omega)
  simp at h0 h1 h2 h3 h4 h5 h6
  simp [bitsI, *]

theorem okSt_bd (n : Int) (h : okSt n = true) : 1 ≤ n ∧ n ≤ 64 := by
  have := (okSt_iff n).1 h
  omega

theorem st_and : ∀ k, k < 65 → 1 ≤ k → (bits BinOp.and IntKind.i64 ((k : Nat) : Int) ((k : Nat) - 1 : Int) == 0) = okSt ((k : Nat) : Int) := by decide

theorem chkC_bd (c : CallD) : 0 ≤ chkC c ∧ chkC c ≤ 14 := by
  unfold chkC serE
  repeat' split
  all_goals omega
end

section
set_option linter.unusedSimpArgs false
set_option linter.unusedVariables false
open Go.RowKit Go.Lib

def packErr : Value := .tuple #[.agg #[.int .u64 0, .int .u64 0], .int .i64 2]
def packV (s : ByteArray) : Value := if idS s = true then .tuple #[.agg #[.int .u64 (hiN s.data.toList), .int .u64 (loN s.data.toList)], .int .i64 0] else packErr

/-- One round of Pack on a word: the digit goes to its place. -/
theorem word_step (l : List UInt8) (a m pos : Nat) (hm : m < 10) (hpos : pos % 10 = m) (c : UInt8) (q : Nat) (hq : a + m = q) (hcq : dig l q = codeB c) :
    bits BinOp.or IntKind.u64 (partW l a m : Nat) (IntKind.u64.wrap (codeI (c.toNat : Int) * 2 ^ (6 * (9 - (pos : Int) % 10)).toNat)) = (partW l a (m + 1) : Nat) := by
  have hc : dig l (a + m) = codeB c := by rw [hq]; exact hcq
  have h1 := partW_lt l a m (by omega)
  have h2 := partW_succ l a m hm
  have h3 := partW_lt l a (m + 1) (by omega)
  have e : (6 * (9 - (pos : Int) % 10)).toNat = 6 * (9 - m) := by omega
  have hle : dig l (a + m) <<< (6 * (9 - m)) ≤ partW l a (m + 1) := by rw [← h2]; exact Nat.right_le_or
  rw [Nat.shiftLeft_eq, hc] at h2 hle
  rw [e, codeI_cast]
  have e2 : ((codeB c : Nat) : Int) * 2 ^ (6 * (9 - m)) = ((codeB c * 2 ^ (6 * (9 - m)) : Nat) : Int) := by
    rw [Int.natCast_mul, Int.natCast_pow]; rfl
  rw [e2, u64_wrap _ (by omega), u64_or_nat _ _ (by omega) (by omega), h2]
end

section
set_option linter.unusedSimpArgs false
set_option linter.unusedVariables false
open Go.RowKit Go.Lib

theorem u64_and63 (x : Nat) (h : x < 18446744073709551616) : bits BinOp.and IntKind.u64 (x : Int) 63 = ((x % 64 : Nat) : Int) := by
  have := u64_and_nat x 63 h (by decide)
  rw [show (63 : Int) = ((63 : Nat) : Int) from rfl, this, show (63 : Nat) = 2 ^ 6 - 1 from rfl, Nat.and_two_pow_sub_one_eq_mod]

theorem atN_lt (hi lo i : Nat) : atN hi lo i < 64 := by unfold atN; exact Nat.mod_lt _ (by decide)

theorem at_word (x i : Nat) (h : x < 18446744073709551616) : bits BinOp.and IntKind.u64 ((x : Int) / 2 ^ (6 * (9 - i % 10))) 63 = ((x / 64 ^ (9 - i % 10) % 64 : Nat) : Int) := by
  have e : (x : Int) / 2 ^ (6 * (9 - i % 10)) = ((x / 64 ^ (9 - i % 10) : Nat) : Int) := by
    have e2 : (2 : Int) ^ (6 * (9 - i % 10)) = ((64 ^ (9 - i % 10) : Nat) : Int) := by
      rw [show (64 : Nat) = 2 ^ 6 from rfl, ← Nat.pow_mul, Int.natCast_pow]; rfl
    rw [e2, Int.natCast_ediv]
  rw [e, u64_and63 _ (Nat.lt_of_le_of_lt (Nat.div_le_self _ _) h)]

theorem byte_info : (Try.prog.info? 5).map (fun i => (i.zero, i.size, i.bytes)) = some (some (.int .u8 0), 1, 1) := by kernel_rfl

def emptyS : ByteArray := { data := #[] }

/-- What Unpack answers. -/
def UnpackSays (hi lo : Nat) (e : Ending) : Prop :=
  (∃ s : ByteArray, IsKey hi lo s.data.toList ∧ e = .returned (.tuple #[.string s, .bool true])) ∨
  ((∀ l, ¬ IsKey hi lo l) ∧ e = .returned (.tuple #[.string { data := #[] }, .bool false]))

def UnpRel (W : World) (hi lo : Nat) (b : Value) (k : Nat) (l : List UInt8) (w' : World) : Prop :=
  k ≤ 20 ∧ l.length ≤ k ∧ (∀ x ∈ l, okB x = true) ∧ (∀ j, j < k → atN hi lo j = dig l j) ∧ w'.ownsRow W.heap.size 5 1 b l.length (bytesV l) ∧ Below W.heap.size W w'

/-- No list has the key: a digit that is no letter's. -/
theorem no_big {hi lo k : Nat} (hk : k < 20) (h : 39 < atN hi lo k) : ∀ l, ¬ IsKey hi lo l := by
  intro l hl
  have := hl.digs k hk
  have := dig_le l k
  omega
/-- No list has the key: a digit behind a gap. -/
theorem no_gap {hi lo k : Nat} {l : List UInt8} (hk : k < 20) (hl : l.length < k) (hdg : ∀ j, j < k → atN hi lo j = dig l j) (h : 0 < atN hi lo k) : ∀ m, ¬ IsKey hi lo m := by
  intro m hm
  have h1 := hm.digs l.length (by omega)
  rw [hdg _ hl, dig_out l _ (Nat.le_refl _)] at h1
  have hmok := ((idL_iff m).1 hm.1).2.2
  have hml : m.length ≤ l.length := by
    rcases Nat.lt_or_ge l.length m.length with h2 | h2
    · rw [dig_at m _ h2] at h1
      have := hmok _ (List.getElem_mem h2)
      simp [okB, ← h1] at this
    · exact h2
  have := hm.digs k hk
  rw [dig_out m k (by omega)] at this
  omega

theorem unp_succ_zero {hi lo k : Nat} {l : List UInt8} (hl : l.length ≤ k) (hdg : ∀ j, j < k → atN hi lo j = dig l j) (h : atN hi lo k = 0) : ∀ j, j < k + 1 → atN hi lo j = dig l j := by
  intro j hj
  rcases Nat.lt_or_ge j k with h1 | h1
  · exact hdg j h1
  · obtain rfl : j = k := by omega
    rw [h, dig_out l _ hl]
theorem unp_succ_some {hi lo k : Nat} {l : List UInt8} (hl : l.length = k) (hdg : ∀ j, j < k → atN hi lo j = dig l j) (h : 0 < atN hi lo k) (h2 : atN hi lo k < 40) :
    ∀ j, j < k + 1 → atN hi lo j = dig (l ++ [letterN (atN hi lo k)]) j := by
  intro j hj
  rcases Nat.lt_or_ge j k with h1 | h1
  · rw [hdg j h1]
    simp [dig, List.getElem?_append_left (show j < l.length by omega)]
  · obtain rfl : j = k := by omega
    rw [dig, List.getElem?_append_right (by omega)]
    simp [hl, (letter_all _ h2 h).1]

def RightB (hi lo : Nat) (b : Bool) : Prop := (b = true ∧ ∃ s : ByteArray, IsKey hi lo s.data.toList) ∨ (b = false ∧ ∀ l, ¬ IsKey hi lo l)
end

end Go.Proofs.Ytfegielnmdppgaa
