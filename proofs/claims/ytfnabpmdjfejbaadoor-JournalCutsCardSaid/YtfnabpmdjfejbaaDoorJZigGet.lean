/- zig.Get. -/
import Derived.Test.YtfnabpmdjfejbaaDoorJZigPut
import Derived.Lib.EndianBits
import Derived.OwnWalk
namespace Go.Proofs.YtfnabpmdjfejbaaDoor
set_option linter.unusedSimpArgs false
set_option linter.unusedVariables false
open Go.RowKit Go.Lib

theorem acc_bits {acc c k : Nat} (hc : c < 256) (hk : k ≤ 9) (h9 : k = 9 → c ≤ 1) (ha : acc < 128 ^ k) :
    bits BinOp.or IntKind.u64 (acc : Int) (IntKind.u64.wrap (IntKind.u64.wrap (bits BinOp.and IntKind.u8 (c : Int) 127) * 2 ^ (7 * k))) = ((acc + c % 128 * 128 ^ k : Nat) : Int) ∧ acc + c % 128 * 128 ^ k < 18446744073709551616 := by
  have hw : ∀ x : Int, IntKind.u64.wrap x = x % 18446744073709551616 := fun x => by simp [IntKind.wrap, IntKind.bits, IntKind.signed]
  have e1 : bits BinOp.and IntKind.u8 (c : Int) 127 = ((c % 128 : Nat) : Int) := by
    have := bits_mask .u8 8 (by decide) wraps_u8 7 (by decide) (c : Int) (by omega) (by omega)
    rw [show ((2 : Int) ^ 7 - 1) = 127 from by decide] at this
    rw [this]
    omega
  have e2 : (128 : Nat) ^ k = 2 ^ (7 * k) := by rw [Nat.pow_mul]
  have hP : 0 < 128 ^ k := Nat.pow_pos (by decide)
  have hprod : c % 128 * 128 ^ k ≤ 9223372036854775808 * 128 / 128 ∧ acc + c % 128 * 128 ^ k < 18446744073709551616 := by
    by_cases h : k = 9
    · have := h9 h
      subst h
      have h1 : c % 128 ≤ 1 := by omega
      have h2 : c % 128 * 128 ^ 9 ≤ 1 * 128 ^ 9 := Nat.mul_le_mul_right _ h1
      omega
    · have h1 : c % 128 ≤ 127 := by omega
      have h2 : c % 128 * 128 ^ k ≤ 127 * 128 ^ 8 := Nat.mul_le_mul h1 (Nat.pow_le_pow_right (by decide) (by omega))
      have h3 : 128 ^ k ≤ 128 ^ 8 := Nat.pow_le_pow_right (by decide) (by omega)
      omega
  have e3 : ((c % 128 : Nat) : Int) * 2 ^ (7 * k) = ((c % 128 * 128 ^ k : Nat) : Int) := by
    rw [e2]; simp
  refine ⟨?_, hprod.2⟩
  rw [e1, hw ((c % 128 : Nat) : Int), Int.emod_eq_of_lt (by omega) (by omega), e3, hw, Int.emod_eq_of_lt (by omega) (by omega)]
  rw [bits_join_low .u64 64 (by decide) wraps_u64 (7 * k) (acc : Int) ((c % 128 * 128 ^ k : Nat) : Int) (by omega) (by
    have : ((acc : Nat) : Int) < ((128 ^ k : Nat) : Int) := by exact_mod_cast ha
    rw [e2] at this
    simpa using this) (by omega) (by omega) (by
    rw [← e3]
    exact Int.mul_emod_left _ _) (by omega)]
  simp

set_option maxRecDepth 100000 in
set_option maxHeartbeats 4000000 in
theorem zigGet_any (v : Value) (l : List UInt8) (w : World) (hv : RowIn 1 byteC w v l) (hl : l.length ≤ 1000000) :
    Calls Tryd.prog 60 #[v] w fun e w' => e = .returned (.tuple #[.int .i64 (getZ l).1, .int .i64 ((getZ l).2.1 : Nat), .int .i64 (getZ l).2.2]) ∧ Below w.heap.size w w' := by
  obtain ⟨A0, c0, rfl⟩ := hv.form
  have hl' : l.length ≤ 9223372036854775807 := by omega
  have HV := Lib.hid hv
  clear hv hl
  go_enter Tryd.func60, Tryd.ntmps60
  go_wp2
  go_loopg [5, 10] l.length (fun g s5 s10 wr => ∃ k acc : Nat, k ≤ l.length ∧ l.length - k ≤ g ∧ k ≤ 9 ∧ acc < 128 ^ k ∧ s10 = .int .i64 k ∧ s5 = .int .u64 (acc : Nat) ∧ getF (l.drop k) k acc = getZ l ∧ Below w.heap.size w wr)
  case atStart => exact ⟨0, 0, Nat.zero_le _, Nat.le_refl _, by omega, by decide, rfl, rfl, rfl, Below.refl _ _⟩
  case round =>
    obtain ⟨k, acc, hk, hg, hk9, hacc, rfl, rfl, hget, hb⟩ := hrel
    have HG := Lib.hid hget
    have HB := Lib.hid hb
    have HA := Lib.hid hacc
    clear hget hacc
    by_cases hlt : k < l.length
    · obtain ⟨bb, o, rfl, hbw, hc⟩ := HV.out.at_ hlt
      have c1 := (hb.cell (p := ⟨bb, _, none⟩) hbw).trans (hc 0 _ rfl)
      rw [Nat.add_zero, Nat.mul_one] at c1
      have hd : l.drop k = l[k] :: l.drop (k + 1) := List.drop_eq_getElem_cons hlt
      have HD := Lib.hid hd
      clear hd hc hb
      generalize l[k] = c at c1 HD
      have hc256 := c.toNat_lt
      have hk1 : (k : Int) < (l.length : Int) := by omega
      have hk0 : (0 : Int) ≤ (k : Int) := by omega
      by_cases h9 : k = 9
      · have q9 : ((k : Int) == 9) = true := by simp; omega
        by_cases hbig : 1 < c.toNat
        · have p0 : (1 : Int) < (c.toNat : Int) := by omega
          have HZ := Lib.hid (show getZ l = (0, 0, 10) by rw [← HG.out, HD.out, getF, if_pos (by omega)])
          try clear hkz
          try clear hc0
          try clear h9
          go_wp2
          go_ret3
          exact ⟨by rw [HZ.out]; rfl, HB.out⟩
        · have p0 : ¬ (1 : Int) < (c.toNat : Int) := by omega
          by_cases hc0 : c.toNat = 0
          · have p1 : ((c.toNat : Int) == 0) = true := by simp; omega
            have p2 : (0 : Int) < (k : Int) := by omega
            have HZ := Lib.hid (show getZ l = (0, 0, 10) by rw [← HG.out, HD.out, getF, if_pos (by omega)])
            try clear hkz
            try clear hc0
            try clear h9
            go_wp2
            go_ret3
            exact ⟨by rw [HZ.out]; rfl, HB.out⟩
          · have p1 : ((c.toNat : Int) == 0) = false := by simp; omega
            have p3 : (c.toNat : Int) < 128 := by omega
            have hacc' := acc_bits hc256 hk9 (fun _ => by omega) HA.out
            have HACC := Lib.hid hacc'.1
            have HALT := Lib.hid hacc'.2
            have HZ := Lib.hid (show getZ l = (zagN (acc + c.toNat % 128 * 128 ^ k), k + 1, 0) by
              rw [← HG.out, HD.out, getF, if_neg (by omega), if_pos (by omega)])
            clear hacc'
            try clear hkz
            try clear hc0
            try clear h9
            go_wp2_with (go_at_call 78
                         rw [HACC.out]
                         refine (zag_any _ wr HALT.out).mono ?_
                         rintro e w1 ⟨rfl, hb1⟩
                         have HB1 := Lib.hid hb1
                         clear hb1)
            go_ret3
            exact ⟨by rw [HZ.out]; rfl, bthen HB.out HB1.out⟩
      · have q9 : ((k : Int) == 9) = false := by simp; omega
        by_cases hc0 : c.toNat = 0
        · by_cases hkz : k = 0
          · have p1 : ((c.toNat : Int) == 0) = true := by simp; omega
            have p2 : ¬ (0 : Int) < (k : Int) := by omega
            have p3 : (c.toNat : Int) < 128 := by omega
            have hacc' := acc_bits hc256 hk9 (fun h => absurd h h9) HA.out
            have HACC := Lib.hid hacc'.1
            have HALT := Lib.hid hacc'.2
            have HZ := Lib.hid (show getZ l = (zagN (acc + c.toNat % 128 * 128 ^ k), k + 1, 0) by
              rw [← HG.out, HD.out, getF, if_neg (by omega), if_pos (by omega)])
            clear hacc'
            try clear hkz
            try clear hc0
            try clear h9
            go_wp2_with (go_at_call 78
                         rw [HACC.out]
                         refine (zag_any _ wr HALT.out).mono ?_
                         rintro e w1 ⟨rfl, hb1⟩
                         have HB1 := Lib.hid hb1
                         clear hb1)
            go_ret3
            exact ⟨by rw [HZ.out]; rfl, bthen HB.out HB1.out⟩
          · have p1 : ((c.toNat : Int) == 0) = true := by simp; omega
            have p2 : (0 : Int) < (k : Int) := by omega
            have HZ := Lib.hid (show getZ l = (0, 0, 10) by rw [← HG.out, HD.out, getF, if_pos (by omega)])
            try clear hkz
            try clear hc0
            try clear h9
            go_wp2
            go_ret3
            exact ⟨by rw [HZ.out]; rfl, HB.out⟩
        · have p1 : ((c.toNat : Int) == 0) = false := by simp; omega
          by_cases hc128 : c.toNat < 128
          · have p3 : (c.toNat : Int) < 128 := by omega
            have hacc' := acc_bits hc256 hk9 (fun h => absurd h h9) HA.out
            have HACC := Lib.hid hacc'.1
            have HALT := Lib.hid hacc'.2
            have HZ := Lib.hid (show getZ l = (zagN (acc + c.toNat % 128 * 128 ^ k), k + 1, 0) by
              rw [← HG.out, HD.out, getF, if_neg (by omega), if_pos (by omega)])
            clear hacc'
            try clear hkz
            try clear hc0
            try clear h9
            go_wp2_with (go_at_call 78
                         rw [HACC.out]
                         refine (zag_any _ wr HALT.out).mono ?_
                         rintro e w1 ⟨rfl, hb1⟩
                         have HB1 := Lib.hid hb1
                         clear hb1)
            go_ret3
            exact ⟨by rw [HZ.out]; rfl, bthen HB.out HB1.out⟩
          · have p3 : ¬ (c.toNat : Int) < 128 := by omega
            have hk8 : k ≤ 8 := by omega
            have hacc' := acc_bits hc256 hk9 (fun h => absurd h h9) HA.out
            have HACC := Lib.hid hacc'.1
            have HALT := Lib.hid hacc'.2
            have HZ := Lib.hid (show getF (l.drop (k + 1)) (k + 1) (acc + c.toNat % 128 * 128 ^ k) = getZ l by
              rw [← HG.out, HD.out, getF, if_neg (by omega), if_neg (by omega)])
            have HAP := Lib.hid (show acc + c.toNat % 128 * 128 ^ k < 128 ^ (k + 1) by
              have h1 := HA.out
              have h2 : c.toNat % 128 * 128 ^ k ≤ 127 * 128 ^ k := Nat.mul_le_mul_right _ (by omega)
              rw [Nat.pow_succ]
              omega)
            clear hacc'
            try clear hkz
            try clear hc0
            try clear h9
            go_wp2
            go_roundg (l.length - (k + 1))
            case measure => omega
            case rel => exact ⟨k + 1, acc + c.toNat % 128 * 128 ^ k, hlt, Nat.le_refl _, by omega, HAP.out, by go_num, by rw [HACC.out], HZ.out, HB.out⟩
    · obtain rfl : k = l.length := by omega
      have HZ := Lib.hid (show getZ l = (0, 0, 11) by rw [← HG.out, List.drop_length, getF])
      have hir : ¬ (l.length : Int) < (l.length : Int) := by omega
      try clear hkz
      try clear hc0
      try clear h9
      go_wp2
      go_ret3
      exact ⟨by rw [HZ.out]; rfl, HB.out⟩
end Go.Proofs.YtfnabpmdjfejbaaDoor
