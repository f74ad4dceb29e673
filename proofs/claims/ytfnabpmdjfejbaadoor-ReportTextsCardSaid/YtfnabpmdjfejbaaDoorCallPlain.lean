/- Configs, policies and calls as plain data; what is wrong with them. -/
import Derived.Test.YtfnabpmdjfejbaaDoorIdWalks
namespace Go.Proofs.YtfnabpmdjfejbaaDoor
set_option linter.unusedSimpArgs false
set_option linter.unusedVariables false
open Go.RowKit Go.Lib

structure Cfg where
  st : Int
  sa : Int
  lo : Int
  hi : Int

structure Pol where
  mn : Int
  mx : Int
  tg : Int
  tol : Int
  win : Int
  hold : Int

structure CallD where
  kind : Int
  id : ByteArray
  tick : Int
  val : Int
  handle : Int
  pol : Pol

def I64 (n : Int) : Prop := -9223372036854775808 ≤ n ∧ n ≤ 9223372036854775807

def Cfg.ok (c : Cfg) : Prop := I64 c.st ∧ I64 c.sa ∧ I64 c.lo ∧ I64 c.hi
def Pol.ok (p : Pol) : Prop := I64 p.mn ∧ I64 p.mx ∧ I64 p.tg ∧ I64 p.tol ∧ I64 p.win ∧ I64 p.hold
def CallD.ok (c : CallD) : Prop := I64 c.kind ∧ c.id.size ≤ maxLen ∧ I64 c.tick ∧ I64 c.val ∧ I64 c.handle ∧ c.pol.ok

def cfgV (c : Cfg) : Value := .agg #[.int .i64 c.st, .int .i64 c.sa, .int .i64 c.lo, .int .i64 c.hi]
def polV (p : Pol) : Value := .agg #[.int .i64 p.mn, .int .i64 p.mx, .int .i64 p.tg, .int .i64 p.tol, .int .i64 p.win, .int .i64 p.hold]
def callCells (c : CallD) : List Value := [.int .i64 c.kind, .string c.id, .int .i64 c.tick, .int .i64 c.val, .int .i64 c.handle, .int .i64 c.pol.mn, .int .i64 c.pol.mx, .int .i64 c.pol.tg, .int .i64 c.pol.tol, .int .i64 c.pol.win, .int .i64 c.pol.hold]
def callV (c : CallD) : Value := .agg #[.int .i64 c.kind, .string c.id, .int .i64 c.tick, .int .i64 c.val, .int .i64 c.handle, .int .i64 c.pol.mn, .int .i64 c.pol.mx, .int .i64 c.pol.tg, .int .i64 c.pol.tol, .int .i64 c.pol.win, .int .i64 c.pol.hold]

def okSt (n : Int) : Bool := n == 1 || (n == 2 || (n == 4 || (n == 8 || (n == 16 || (n == 32 || n == 64)))))
def cfgB (c : Cfg) : Bool := okSt c.st && decide (1 ≤ c.sa ∧ c.sa ≤ 256 ∧ 1 ≤ c.lo ∧ c.lo ≤ 256 ∧ 1 ≤ c.hi ∧ c.hi ≤ 64)
def cfgE (c : Cfg) : Int := if cfgB c = true then 0 else 1
def serE (t v : Int) : Int := if t < 0 then 3 else if v < 0 then 4 else 0
def polB (p : Pol) : Bool := decide (0 ≤ p.mn ∧ 1 ≤ p.mx ∧ p.mn ≤ p.mx ∧ p.mx ≤ 1073741824 ∧ 1 ≤ p.tg ∧ 0 ≤ p.tol ∧ p.tol ≤ 999 ∧ 1 ≤ p.win ∧ 0 ≤ p.hold)
def polE (p : Pol) : Int := if polB p = true then 0 else 7
def chkC (c : CallD) : Int :=
  if c.kind < 1 ∨ 8 < c.kind then 14
  else if (c.kind = 1 ∨ c.kind = 5 ∨ c.kind = 6 ∨ c.kind = 7) ∧ idS c.id = false then 2
  else if c.kind = 1 then serE c.tick c.val
  else if c.kind = 2 ∧ c.tick < 0 then 3
  else if c.kind = 6 ∧ polB c.pol = false then 7
  else 0

theorem okSt_iff (n : Int) : okSt n = true ↔ n = 1 ∨ n = 2 ∨ n = 4 ∨ n = 8 ∨ n = 16 ∨ n = 32 ∨ n = 64 := by
  simp [okSt]

def bitsI (n : Int) : Int := if n = 1 then 0 else if n = 2 then 1 else if n = 4 then 2 else if n = 8 then 3 else if n = 16 then 4 else if n = 32 then 5 else if n = 64 then 6 else -1
theorem bitsI_ok (n : Int) : decide (0 ≤ bitsI n) = okSt n := by
  rw [Bool.eq_iff_iff, okSt_iff, decide_eq_true_eq]
  unfold bitsI
  repeat' split
  all_goals omega
theorem bitsI_pow : ∀ k, k < 7 → bitsI ((2 ^ k : Nat) : Int) = (k : Nat) := by decide
theorem bitsI_none (n : Int) (h : ∀ j, j < 7 → n ≠ ((2 ^ j : Nat) : Int)) : bitsI n = -1 := by
  have h0 := h 0 (by omega)
  have h1 := h 1 (by omega)
  have h2 := h 2 (by omega)
  have h3 := h 3 (by omega)
  have h4 := h 4 (by omega)
  have h5 := h 5 (by omega)
  have h6 := h 6 (by omega)
  simp at h0 h1 h2 h3 h4 h5 h6
  simp [bitsI, *]

theorem okSt_bd (n : Int) (h : okSt n = true) : 1 ≤ n ∧ n ≤ 64 := by
  have := (okSt_iff n).1 h
  omega

theorem st_and : ∀ k, k < 65 → 1 ≤ k → (bits BinOp.and IntKind.i64 ((k : Nat) : Int) ((k : Nat) - 1 : Int) == 0) = okSt ((k : Nat) : Int) := by decide

theorem chkC_bd (c : CallD) : 0 ≤ chkC c ∧ chkC c ≤ 14 := by
  unfold chkC serE
  repeat' split
  all_goals omega

end Go.Proofs.YtfnabpmdjfejbaaDoor
