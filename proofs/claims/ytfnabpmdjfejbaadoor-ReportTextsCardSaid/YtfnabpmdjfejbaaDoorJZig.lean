/- zig.Zig, Zag, Put. -/
import Derived.Test.YtfnabpmdjfejbaaDoorJPlain
import Derived.Test.YtfnabpmdjfejbaaDoorSeqs
import Derived.Lib.Varint
import Derived.Laws.Bits64
import Derived.Laws.Bits64b
namespace Go.Proofs.YtfnabpmdjfejbaaDoor
set_option linter.unusedSimpArgs false
set_option linter.unusedVariables false
open Go.RowKit Go.Lib

def byteC (b : UInt8) : List Value := [.int .u8 (b.toNat : Nat)]
theorem eByte : EltOf 27 5 1 1 (.int .u8 0) byteC :=
  ⟨by kernel_rfl, by kernel_rfl, rfl, by decide, by decide, fun _ => rfl, fun x u hu => by
    simp only [byteC, List.mem_cons, List.not_mem_nil, or_false] at hu
    subst hu
    rfl⟩
def numC (n : Int) : List Value := [.int .i64 n]
theorem eNum : EltOf 74 2 1 8 (.int .i64 0) numC :=
  ⟨by kernel_rfl, by kernel_rfl, rfl, by decide, by decide, fun _ => rfl, fun x u hu => by
    simp only [numC, List.mem_cons, List.not_mem_nil, or_false] at hu
    subst hu
    rfl⟩

theorem xor_ones (a : Nat) (h : a < 18446744073709551616) : a ^^^ 18446744073709551615 = 18446744073709551615 - a := by
  have h1 := congrArg BitVec.toNat (BitVec.xor_allOnes (x := BitVec.ofNat 64 a))
  rw [BitVec.toNat_xor, BitVec.toNat_not, BitVec.toNat_ofNat, Nat.mod_eq_of_lt (by omega)] at h1
  rw [show (BitVec.allOnes 64).toNat = 18446744073709551615 from by decide] at h1
  omega
theorem zig_bits {n : Int} (h : I64 n) : bits BinOp.xor IntKind.u64 (IntKind.u64.wrap (IntKind.u64.wrap n * 2)) (IntKind.u64.wrap (n / 9223372036854775808)) = (zigN n : Nat) := by
  have hw : ∀ x : Int, IntKind.u64.wrap x = x % 18446744073709551616 := fun x => by simp [IntKind.wrap, IntKind.bits, IntKind.signed]
  unfold I64 at h
  unfold zigN
  rw [hw, hw, hw]
  by_cases h0 : 0 ≤ n
  · rw [if_pos h0]
    have e1 : (n % 18446744073709551616 * 2) % 18446744073709551616 = ((2 * n.toNat : Nat) : Int) := by omega
    have e2 : (n / 9223372036854775808) % 18446744073709551616 = ((0 : Nat) : Int) := by omega
    rw [e1, e2, bits_xor_u64_nat _ _ (by omega) (by decide), Nat.xor_zero]
  · rw [if_neg h0]
    have e1 : (n % 18446744073709551616 * 2) % 18446744073709551616 = ((18446744073709551616 - 2 * (-n).toNat : Nat) : Int) := by omega
    have e2 : (n / 9223372036854775808) % 18446744073709551616 = ((18446744073709551615 : Nat) : Int) := by omega
    rw [e1, e2, bits_xor_u64_nat _ _ (by omega) (by decide), xor_ones _ (by omega)]
    omega
theorem xor_m1 (a : Nat) (h : a < 9223372036854775808) : bits .xor .i64 (a : Int) (-1) = -1 - (a : Int) := by
  show IntKind.i64.wrap ((BitVec.ofInt 64 (a : Int) ^^^ BitVec.ofInt 64 (-1)).toNat : Nat) = _
  rw [show BitVec.ofInt 64 (-1) = BitVec.allOnes 64 from by decide, BitVec.xor_allOnes, BitVec.toNat_not, BitVec.ofInt_natCast, BitVec.toNat_ofNat, Nat.mod_eq_of_lt (by omega), IntKind.wrap_i64]
  omega
theorem xor_z (a : Nat) (h : a < 9223372036854775808) : bits .xor .i64 (a : Int) 0 = (a : Int) := by
  show IntKind.i64.wrap ((BitVec.ofInt 64 (a : Int) ^^^ BitVec.ofInt 64 0).toNat : Nat) = _
  rw [show BitVec.ofInt 64 0 = 0#64 from by decide, BitVec.xor_zero, BitVec.ofInt_natCast, BitVec.toNat_ofNat, Nat.mod_eq_of_lt (by omega), IntKind.wrap_i64]
  omega
theorem zag_bits {x : Nat} (h : x < 18446744073709551616) : bits BinOp.xor IntKind.i64 ((x : Int) / 2) (wrap64 (-wrap64 (bits BinOp.and IntKind.u64 (x : Int) 1))) = zagN x := by
  have e : bits BinOp.and IntKind.u64 (x : Int) 1 = ((x % 2 : Nat) : Int) := by
    have := bits_and_u64_nat x 1 h (by decide)
    rw [Nat.and_one_is_mod] at this
    exact this
  rw [e]
  unfold zagN wrap64
  have e2 : (x : Int) / 2 = ((x / 2 : Nat) : Int) := by omega
  rw [e2]
  by_cases h0 : x % 2 = 0
  · rw [if_pos h0, h0]
    exact xor_z _ (by omega)
  · rw [if_neg h0]
    have e3 : x % 2 = 1 := by omega
    rw [e3]
    exact xor_m1 _ (by omega)

set_option maxRecDepth 100000 in
set_option maxHeartbeats 4000000 in
theorem zig_any (n : Int) (w : World) (h : I64 n) :
    Calls Tryd.prog 53 #[.int .i64 n] w fun e w' => e = .returned (.int .u64 (zigN n : Nat)) ∧ Below w.heap.size w w' := by
  have hz := zig_bits h
  have HZ := Lib.hid hz
  clear hz h
  go_enter Tryd.func53, Tryd.ntmps53
  go_wp2
  go_ret
  exact ⟨ret_int HZ.out, Below.refl _ _⟩
set_option maxRecDepth 100000 in
set_option maxHeartbeats 4000000 in
theorem zag_any (x : Nat) (w : World) (h : x < 18446744073709551616) :
    Calls Tryd.prog 78 #[.int .u64 (x : Nat)] w fun e w' => e = .returned (.int .i64 (zagN x)) ∧ Below w.heap.size w w' := by
  have HZ := Lib.hid (zag_bits h)
  go_enter Tryd.func78, Tryd.ntmps78
  go_wp2
  go_ret
  exact ⟨ret_int HZ.out, Below.refl _ _⟩
end Go.Proofs.YtfnabpmdjfejbaaDoor
