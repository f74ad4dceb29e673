/- Walks of ident's at, letter, Unpack, Right, Cmp. -/
import Derived.Test.YtfnabpmdjfejbaaIdPack
import Derived.Test.YtfnabpmdjfejbaaIdCmp
namespace Go.Proofs.Ytfnabpmdjfejbaa
set_option linter.unusedSimpArgs false
set_option linter.unusedVariables false
open Go.RowKit Go.Lib

theorem u64_and63 (x : Nat) (h : x < 18446744073709551616) : bits BinOp.and IntKind.u64 (x : Int) 63 = ((x % 64 : Nat) : Int) := by
  have := u64_and_nat x 63 h (by decide)
  rw [show (63 : Int) = ((63 : Nat) : Int) from rfl, this, show (63 : Nat) = 2 ^ 6 - 1 from rfl, Nat.and_two_pow_sub_one_eq_mod]

theorem atN_lt (hi lo i : Nat) : atN hi lo i < 64 := by unfold atN; exact Nat.mod_lt _ (by decide)

theorem at_word (x i : Nat) (h : x < 18446744073709551616) : bits BinOp.and IntKind.u64 ((x : Int) / 2 ^ (6 * (9 - i % 10))) 63 = ((x / 64 ^ (9 - i % 10) % 64 : Nat) : Int) := by
  have e : (x : Int) / 2 ^ (6 * (9 - i % 10)) = ((x / 64 ^ (9 - i % 10) : Nat) : Int) := by
    have e2 : (2 : Int) ^ (6 * (9 - i % 10)) = ((64 ^ (9 - i % 10) : Nat) : Int) := by
      rw [show (64 : Nat) = 2 ^ 6 from rfl, ← Nat.pow_mul, Int.natCast_pow]; rfl
    rw [e2, Int.natCast_ediv]
  rw [e, u64_and63 _ (Nat.lt_of_le_of_lt (Nat.div_le_self _ _) h)]

theorem byte_info : (Try.prog.info? 5).map (fun i => (i.zero, i.size, i.bytes)) = some (some (.int .u8 0), 1, 1) := by kernel_rfl

def emptyS : ByteArray := { data := #[] }

/-- What Unpack answers. -/
def UnpackSays (hi lo : Nat) (e : Ending) : Prop :=
  (∃ s : ByteArray, IsKey hi lo s.data.toList ∧ e = .returned (.tuple #[.string s, .bool true])) ∨
  ((∀ l, ¬ IsKey hi lo l) ∧ e = .returned (.tuple #[.string { data := #[] }, .bool false]))

def UnpRel (W : World) (hi lo : Nat) (b : Value) (k : Nat) (l : List UInt8) (w' : World) : Prop :=
  k ≤ 20 ∧ l.length ≤ k ∧ (∀ x ∈ l, okB x = true) ∧ (∀ j, j < k → atN hi lo j = dig l j) ∧ w'.ownsRow W.heap.size 5 1 b l.length (bytesV l) ∧ Below W.heap.size W w'

/-- No list has the key: a digit that is no letter's. -/
theorem no_big {hi lo k : Nat} (hk : k < 20) (h : 39 < atN hi lo k) : ∀ l, ¬ IsKey hi lo l := by
  intro l hl
  have := hl.digs k hk
  have := dig_le l k
  omega
/-- No list has the key: a digit behind a gap. -/
theorem no_gap {hi lo k : Nat} {l : List UInt8} (hk : k < 20) (hl : l.length < k) (hdg : ∀ j, j < k → atN hi lo j = dig l j) (h : 0 < atN hi lo k) : ∀ m, ¬ IsKey hi lo m := by
  intro m hm
  have h1 := hm.digs l.length (by omega)
  rw [hdg _ hl, dig_out l _ (Nat.le_refl _)] at h1
  have hmok := ((idL_iff m).1 hm.1).2.2
  have hml : m.length ≤ l.length := by
    rcases Nat.lt_or_ge l.length m.length with h2 | h2
    · rw [dig_at m _ h2] at h1
      have := hmok _ (List.getElem_mem h2)
      simp [okB, ← h1] at this
    · exact h2
  have := hm.digs k hk
  rw [dig_out m k (by omega)] at this
  omega

theorem unp_succ_zero {hi lo k : Nat} {l : List UInt8} (hl : l.length ≤ k) (hdg : ∀ j, j < k → atN hi lo j = dig l j) (h : atN hi lo k = 0) : ∀ j, j < k + 1 → atN hi lo j = dig l j := by
  intro j hj
  rcases Nat.lt_or_ge j k with h1 | h1
  · exact hdg j h1
  · obtain rfl : j = k := by omega
    rw [h, dig_out l _ hl]
theorem unp_succ_some {hi lo k : Nat} {l : List UInt8} (hl : l.length = k) (hdg : ∀ j, j < k → atN hi lo j = dig l j) (h : 0 < atN hi lo k) (h2 : atN hi lo k < 40) :
    ∀ j, j < k + 1 → atN hi lo j = dig (l ++ [letterN (atN hi lo k)]) j := by
  intro j hj
  rcases Nat.lt_or_ge j k with h1 | h1
  · rw [hdg j h1]
    simp [dig, List.getElem?_append_left (show j < l.length by omega)]
  · obtain rfl : j = k := by omega
    rw [dig, List.getElem?_append_right (by omega)]
    simp [hl, (letter_all _ h2 h).1]

def RightB (hi lo : Nat) (b : Bool) : Prop := (b = true ∧ ∃ s : ByteArray, IsKey hi lo s.data.toList) ∨ (b = false ∧ ∀ l, ¬ IsKey hi lo l)

end Go.Proofs.Ytfnabpmdjfejbaa
