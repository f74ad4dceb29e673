/- Walks of fnv's Sum64, Key, Fold and route's Bits, Of. -/
import Derived.Test.YthfkgffalhkeeaaFnvBytes
namespace Go.Proofs.Ythfkgffalhkeeaa
open Go.RowKit Go.Lib

/-! ### Sum64 -/
def prime64 : Nat := 1099511628211
def basis64 : Nat := 14695981039346656037
def stepH (h b : Nat) : Nat := (h ^^^ b) * prime64 % 18446744073709551616
def sumL (l : List UInt8) : Nat := l.foldl (fun h b => stepH h b.toNat) basis64

theorem stepH_lt (h b : Nat) : stepH h b < 18446744073709551616 := Nat.mod_lt _ (by decide)
theorem foldl_lt (l : List UInt8) (h : Nat) (hh : h < 18446744073709551616) : l.foldl (fun h b => stepH h b.toNat) h < 18446744073709551616 := by
  induction l generalizing h with
  | nil => exact hh
  | cons a l ih => exact ih _ (stepH_lt _ _)
theorem basis_lt : basis64 < 18446744073709551616 := by unfold basis64; omega
theorem sumL_lt (l : List UInt8) : sumL l < 18446744073709551616 := by
  unfold sumL
  exact foldl_lt l basis64 basis_lt
theorem sumL_snoc (l : List UInt8) (b : UInt8) : sumL (l ++ [b]) = stepH (sumL l) b.toNat := by
  unfold sumL
  rw [List.foldl_append, List.foldl_cons, List.foldl_nil]

theorem u64_wrap_mod (n : Nat) : IntKind.u64.wrap (n : Int) = ((n % 18446744073709551616 : Nat) : Int) := by
  have h : IntKind.u64.wrap (n : Int) = (n : Int) % 18446744073709551616 := by
    simp only [IntKind.wrap, IntKind.signed, IntKind.bits]
    simp
  rw [h]
  omega

theorem step_walk (h c : Nat) (hh : h < 18446744073709551616) (hc : c < 256) :
    IntKind.u64.wrap (bits BinOp.xor IntKind.u64 (h : Int) (c : Int) * 1099511628211) = (stepH h c : Nat) := by
  rw [u64_xor_nat h c hh (by omega)]
  have e : ((h ^^^ c : Nat) : Int) * 1099511628211 = (((h ^^^ c) * prime64 : Nat) : Int) := by
    rw [Int.natCast_mul]; rfl
  rw [e, u64_wrap_mod]
  rfl

set_option maxRecDepth 100000 in
set_option maxHeartbeats 1000000 in
theorem sum64_any (s : ByteArray) (w : World) (hm : s.size ≤ maxLen) :
    Calls Try.prog 86 #[.string s] w fun e w' => e = .returned (.int .u64 (sumL s.data.toList : Nat)) ∧ w = w' := by
  have hmm : s.size ≤ 9223372036854775807 := hm
  go_enter Try.func86, Try.ntmps86
  go_wp2
  go_loop [3, 4, 7] (fun h _ i => ∃ k : Nat, k ≤ s.size ∧ i = .int .i64 k ∧ h = .int .u64 (sumL (s.data.toList.take k) : Nat)) (fun _ _ i => s.size - (intOf i).toNat)
  case atStart => exact ⟨0, Nat.zero_le _, rfl, rfl⟩
  case round =>
    obtain ⟨k, hk, rfl, rfl⟩ := hrel
    by_cases hlt : k < s.size
    · have hsn : sumL (s.data.toList.take (k + 1)) = stepH (sumL (s.data.toList.take k)) (s[k]).toNat := by
        rw [List.take_succ_eq_append_getElem (by simpa using hlt), sumL_snoc]; rfl
      have hb := sumL_lt (s.data.toList.take k)
      generalize sumL (s.data.toList.take k) = h at hsn hb
      have hc : (s[k]).toNat < 256 := (s[k]).toNat_lt
      have hst := step_walk h _ hb hc
      have Hsn := Lib.hid hsn
      have Hst := Lib.hid hst
      clear hsn hst
      go_wp2
      go_round
      case rel => exact ⟨k + 1, hlt, by go_num, by rw [Hsn.out, Hst.out]⟩
      case measure => simp [intOf]; omega
    · obtain rfl : k = s.size := by omega
      go_wp2
      go_ret
      refine ⟨ret_int ?_, rfl⟩
      rw [List.take_of_length_le (by simp)]

end Go.Proofs.Ythfkgffalhkeeaa
