/- Sums of 32 bits: fnv.Sum32, flywheelref04.Sum32. -/
import Derived.Test.YtfnabpmdjfejbaaDoorUnlike
import Derived.Laws.Bits64
namespace Go.Proofs.YtfnabpmdjfejbaaDoor
set_option linter.unusedSimpArgs false
set_option linter.unusedVariables false
open Go.RowKit Go.Lib

def step32 (h b : Nat) : Nat := (h ^^^ b) * 16777619 % 4294967296
def sum32 (l : List UInt8) : Nat := l.foldl (fun h b => step32 h b.toNat) 2166136261
theorem step32_lt (h b : Nat) : step32 h b < 4294967296 := Nat.mod_lt _ (by decide)
theorem sum32_lt (l : List UInt8) : sum32 l < 4294967296 := by
  have : ∀ (l : List UInt8) (h : Nat), h < 4294967296 → l.foldl (fun h b => step32 h b.toNat) h < 4294967296 := by
    intro l
    induction l with
    | nil => exact fun h hh => hh
    | cons a l ih => exact fun h hh => ih _ (step32_lt _ _)
  exact this l _ (by decide)
theorem sum32_snoc (l : List UInt8) (b : UInt8) : sum32 (l ++ [b]) = step32 (sum32 l) b.toNat := by
  unfold sum32
  rw [List.foldl_append, List.foldl_cons, List.foldl_nil]
theorem wrap_u32' (n : Int) : IntKind.u32.wrap n = n % 4294967296 := by simp [IntKind.wrap, IntKind.bits, IntKind.signed]
theorem xor_u32 (a b : Nat) (ha : a < 4294967296) (hb : b < 4294967296) : bits .xor .u32 (a : Int) (b : Int) = ((a ^^^ b : Nat) : Int) := by
  show IntKind.u32.wrap ((BitVec.ofInt 32 (a : Int) ^^^ BitVec.ofInt 32 (b : Int)).toNat : Nat) = _
  rw [BitVec.ofInt_natCast, BitVec.ofInt_natCast, BitVec.toNat_xor, BitVec.toNat_ofNat, BitVec.toNat_ofNat, Nat.mod_eq_of_lt (by omega), Nat.mod_eq_of_lt (by omega), wrap_u32']
  have : a ^^^ b < 2 ^ 32 := Nat.xor_lt_two_pow (by omega) (by omega)
  omega
theorem step32_walk (h c : Nat) (hh : h < 4294967296) (hc : c < 256) : bits BinOp.xor IntKind.u32 (h : Int) (c : Int) * 16777619 % 4294967296 = (step32 h c : Nat) := by
  rw [xor_u32 h c hh (by omega)]
  unfold step32
  omega

set_option maxRecDepth 100000 in
set_option maxHeartbeats 1000000 in
theorem sum32_any (s : ByteArray) (w : World) (hm : s.size ≤ maxLen) :
    Calls Tryd.prog 54 #[.string s] w fun e w' => e = .returned (.int .u32 (sum32 s.data.toList : Nat)) ∧ w = w' := by
  have hmm : s.size ≤ 9223372036854775807 := hm
  go_enter Tryd.func54, Tryd.ntmps54
  go_wp2
  go_loop [3, 4, 7] (fun h _ i => ∃ k : Nat, k ≤ s.size ∧ i = .int .i64 k ∧ h = .int .u32 (sum32 (s.data.toList.take k) : Nat)) (fun _ _ i => s.size - (intOf i).toNat)
  case atStart => exact ⟨0, Nat.zero_le _, rfl, rfl⟩
  case round =>
    obtain ⟨k, hk, rfl, rfl⟩ := hrel
    by_cases hlt : k < s.size
    · have hsn : sum32 (s.data.toList.take (k + 1)) = step32 (sum32 (s.data.toList.take k)) (s[k]).toNat := by
        rw [List.take_succ_eq_append_getElem (by simpa using hlt), sum32_snoc]; rfl
      have hb := sum32_lt (s.data.toList.take k)
      generalize sum32 (s.data.toList.take k) = h at hsn hb
      have hc : (s[k]).toNat < 256 := (s[k]).toNat_lt
      have hst := step32_walk h _ hb hc
      have Hsn := Lib.hid hsn
      have Hst := Lib.hid hst
      clear hsn hst
      go_wp2
      go_round
      case rel => exact ⟨k + 1, hlt, by go_num, by rw [Hsn.out, Hst.out]⟩
      case measure => simp [intOf]; omega
    · obtain rfl : k = s.size := by omega
      go_wp2
      go_ret
      refine ⟨ret_int ?_, rfl⟩
      rw [List.take_of_length_le (by simp)]

set_option maxRecDepth 100000 in
set_option maxHeartbeats 1000000 in
theorem rsum32_any (s : ByteArray) (w : World) (hm : s.size ≤ maxLen) :
    Calls Tryd.prog 59 #[.string s] w fun e w' => e = .returned (.int .u32 (sum32 s.data.toList : Nat)) ∧ w = w' := by
  have hmm : s.size ≤ 9223372036854775807 := hm
  go_enter Tryd.func59, Tryd.ntmps59
  go_wp2
  go_loop [3, 4, 5] (fun h i _ => ∃ k : Nat, k ≤ s.size ∧ i = .int .i64 k ∧ h = .int .u64 (sum32 (s.data.toList.take k) : Nat)) (fun _ i _ => s.size - (intOf i).toNat)
  case atStart => exact ⟨0, Nat.zero_le _, rfl, rfl⟩
  case round =>
    obtain ⟨k, hk, rfl, rfl⟩ := hrel
    by_cases hlt : k < s.size
    · have hsn : sum32 (s.data.toList.take (k + 1)) = step32 (sum32 (s.data.toList.take k)) (s[k]).toNat := by
        rw [List.take_succ_eq_append_getElem (by simpa using hlt), sum32_snoc]; rfl
      have hb := sum32_lt (s.data.toList.take k)
      generalize sum32 (s.data.toList.take k) = h at hsn hb
      have hc : (s[k]).toNat < 256 := (s[k]).toNat_lt
      generalize hcc : (s[k]).toNat = c at hc hsn
      have hx := xor_byte h c hc
      have hlt2 : h ^^^ c < 2 ^ 32 := Nat.xor_lt_two_pow (by omega) (by omega)
      have hbb : (h % 256) ^^^ c < 2 ^ 8 := Nat.xor_lt_two_pow (by omega) (by omega)
      have hl : h % 256 < 256 := by omega
      have hd : ((h : Int) % 256) = ((h % 256 : Nat) : Int) := by simp
      have hs : ((h : Int) - ((h % 256 : Nat) : Int)) + ((((h % 256) ^^^ c : Nat)) : Int) = ((h ^^^ c : Nat) : Int) := by omega
      have hst : ((h ^^^ c : Nat) : Int) * 16777619 % 4294967296 = (step32 h c : Nat) := by unfold step32; omega
      have hle : h % 256 ≤ h := by omega
      generalize hm2 : h % 256 = m at *
      generalize hX : m ^^^ c = X at *
      generalize hY : h ^^^ c = Y at *
      have Hm := Lib.hid hm2
      have HX := Lib.hid hX
      have Hst := Lib.hid hst
      have Hs := Lib.hid hs
      have Hd := Lib.hid hd
      have Hsn := Lib.hid hsn
      clear hm2 hX hY hst hs hd hx hsn
      have hbd : (h : Int) - (m : Int) + (X : Int) ≤ 18446744073709551615 := by have := Hs.out; omega
      have hbd3 : ((h : Int) - (m : Int) + (X : Int)) * 16777619 ≤ 18446744073709551615 := by have := Hs.out; omega
      go_wp2_with (go_at_call 77
                   rw [Hd.out]
                   refine (unlike_any m c _ hl hc).mono ?_
                   rw [HX.out]
                   rintro e w' ⟨rfl, rfl⟩)
      go_round
      case rel => exact ⟨k + 1, hlt, by go_num, by rw [Hsn.out, ← Hst.out, ← Hs.out]⟩
      case measure => simp [intOf]; omega
    · obtain rfl : k = s.size := by omega
      have hb := sum32_lt (s.data.toList.take s.size)
      go_wp2
      go_ret
      refine ⟨ret_int ?_, rfl⟩
      rw [List.take_of_length_le (by simp)]
end Go.Proofs.YtfnabpmdjfejbaaDoor
