/- flywheelref04.Unlike: the bits of two bytes that are not alike. -/
import Derived.Test.YtfnabpmdjfejbaaDoorBase
namespace Go.Proofs.YtfnabpmdjfejbaaDoor
set_option linter.unusedSimpArgs false
set_option linter.unusedVariables false
open Go.RowKit Go.Lib

theorem xor_step (a b k : Nat) : (a ^^^ b) % 2 ^ (k + 1) = (a ^^^ b) % 2 ^ k + if a / 2 ^ k % 2 = b / 2 ^ k % 2 then 0 else 2 ^ k := by
  have h1 : (a ^^^ b) / 2 ^ k % 2 = if a / 2 ^ k % 2 = b / 2 ^ k % 2 then 0 else 1 := by
    rw [← Nat.shiftRight_eq_div_pow, Nat.shiftRight_xor_distrib, Nat.shiftRight_eq_div_pow, Nat.shiftRight_eq_div_pow]
    have h2 := Nat.xor_mod_two_eq_one (a := a / 2 ^ k) (b := b / 2 ^ k)
    have h3 := Nat.mod_lt ((a / 2 ^ k) ^^^ (b / 2 ^ k)) (show 0 < 2 by decide)
    have h4 := Nat.mod_lt (a / 2 ^ k) (show 0 < 2 by decide)
    have h5 := Nat.mod_lt (b / 2 ^ k) (show 0 < 2 by decide)
    split <;> omega
  have h2 : (a ^^^ b) % 2 ^ (k + 1) = (a ^^^ b) % 2 ^ k + 2 ^ k * ((a ^^^ b) / 2 ^ k % 2) := by
    rw [Nat.pow_succ, Nat.mod_mul]
  rw [h2, h1]
  split <;> simp

theorem half_step (a k : Nat) : a / 2 ^ k / 2 = a / 2 ^ (k + 1) := by rw [Nat.div_div_eq_div_mul, Nat.pow_succ]

set_option maxRecDepth 100000 in
set_option maxHeartbeats 1000000 in
theorem unlike_any (a b : Nat) (w : World) (ha : a < 256) (hb : b < 256) :
    Calls Tryd.prog 77 #[.int .u64 a, .int .u64 b] w fun e w' => e = .returned (.int .u64 ((a ^^^ b : Nat) : Int)) ∧ w = w' := by
  go_enter Tryd.func77, Tryd.ntmps77
  go_wp2
  go_loop [0, 1, 5, 6, 7] (fun x y o n i => ∃ k : Nat, k ≤ 8 ∧ i = .int .i64 k ∧ x = .int .u64 (a / 2 ^ k : Nat) ∧ y = .int .u64 (b / 2 ^ k : Nat) ∧ o = .int .u64 ((a ^^^ b) % 2 ^ k : Nat) ∧ n = .int .u64 (2 ^ k : Nat)) (fun _ _ _ _ i => 8 - (intOf i).toNat)
  case atStart => exact ⟨0, by omega, rfl, by simp, by simp, by simp [Nat.mod_one], rfl⟩
  case round =>
    obtain ⟨k, hk, rfl, rfl, rfl, rfl, rfl⟩ := hrel
    by_cases hlt : k < 8
    · have hp : 2 ^ k ≤ 2 ^ 7 := Nat.pow_le_pow_right (by decide) (by omega)
      have hx : (a ^^^ b) % 2 ^ k < 2 ^ k := Nat.mod_lt _ (Nat.pow_pos (by decide))
      have ha2 : a / 2 ^ k ≤ a := Nat.div_le_self _ _
      have hb2 : b / 2 ^ k ≤ b := Nat.div_le_self _ _
      have s1 := Lib.hid (xor_step a b k)
      have s2 := Lib.hid (half_step a k)
      have s3 := Lib.hid (half_step b k)
      have s4 := Lib.hid (Nat.pow_succ 2 k)
      by_cases he : a / 2 ^ k % 2 = b / 2 ^ k % 2
      · have He := Lib.hid he
        clear he
        generalize hA : a / 2 ^ k = A at *
        generalize hB : b / 2 ^ k = B at *
        generalize hX : (a ^^^ b) % 2 ^ k = X at *
        generalize hN : 2 ^ k = N at *
        clear hA hB hX hN
        have hq : ((A : Int) % 2 != (B : Int) % 2) = false := by have := He.out; simp; omega
        go_wp2
        go_round
        case rel => exact ⟨k + 1, hlt, by go_num, by rw [← s2.out]; simp, by rw [← s3.out]; simp, by rw [s1.out, if_pos He.out]; simp, by rw [s4.out]; simp⟩
        case measure => simp [intOf]; omega
      · have He := Lib.hid he
        clear he
        generalize hA : a / 2 ^ k = A at *
        generalize hB : b / 2 ^ k = B at *
        generalize hX : (a ^^^ b) % 2 ^ k = X at *
        generalize hN : 2 ^ k = N at *
        clear hA hB hX hN
        have hq : ((A : Int) % 2 != (B : Int) % 2) = true := by have := He.out; simp; omega
        go_wp2
        go_round
        case rel => exact ⟨k + 1, hlt, by go_num, by rw [← s2.out]; simp, by rw [← s3.out]; simp, by rw [s1.out, if_neg He.out]; simp, by rw [s4.out]; simp⟩
        case measure => simp [intOf]; omega
    · obtain rfl : k = 8 := by omega
      go_wp2
      go_ret
      have hv : a ^^^ b < 2 ^ 8 := Nat.xor_lt_two_pow (by omega) (by omega)
      exact ⟨ret_int (by omega), rfl⟩

theorem xor_byte (h c : Nat) (hc : c < 256) : h - h % 256 + ((h % 256) ^^^ c) = h ^^^ c := by
  have h1 : (h ^^^ c) / 256 = h / 256 := by
    have := Nat.shiftRight_xor_distrib (a := h) (b := c) (i := 8)
    rw [Nat.shiftRight_eq_div_pow, Nat.shiftRight_eq_div_pow, Nat.shiftRight_eq_div_pow] at this
    have h2 : c / 2 ^ 8 = 0 := Nat.div_eq_of_lt hc
    rw [h2, Nat.xor_zero] at this
    exact this
  have h2 : (h ^^^ c) % 256 = (h % 256) ^^^ c := by
    have := Nat.xor_mod_two_pow (a := h) (b := c) (n := 8)
    rw [show (2 : Nat) ^ 8 = 256 from rfl, Nat.mod_eq_of_lt hc] at this
    exact this
  omega
end Go.Proofs.YtfnabpmdjfejbaaDoor
