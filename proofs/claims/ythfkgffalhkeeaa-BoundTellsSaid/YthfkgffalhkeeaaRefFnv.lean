/- Walks of flywheelref04's Unlike, Step, Key, Fold, flywheelref05.Of, flywheelref29.Home: they are the program's. -/
import Derived.Test.YthfkgffalhkeeaaCallOps
import Derived.Test.YthfkgffalhkeeaaCallRef
namespace Go.Proofs.Ythfkgffalhkeeaa
open Go.RowKit Go.Lib

theorem xor_step (a b k : Nat) : (a ^^^ b) % 2 ^ (k + 1) = (a ^^^ b) % 2 ^ k + if a / 2 ^ k % 2 = b / 2 ^ k % 2 then 0 else 2 ^ k := by
  have h1 : (a ^^^ b) / 2 ^ k % 2 = if a / 2 ^ k % 2 = b / 2 ^ k % 2 then 0 else 1 := by
    rw [← Nat.shiftRight_eq_div_pow, Nat.shiftRight_xor_distrib, Nat.shiftRight_eq_div_pow, Nat.shiftRight_eq_div_pow]
    have h2 := Nat.xor_mod_two_eq_one (a := a / 2 ^ k) (b := b / 2 ^ k)
    have h3 := Nat.mod_lt ((a / 2 ^ k) ^^^ (b / 2 ^ k)) (show 0 < 2 by decide)
    have h4 := Nat.mod_lt (a / 2 ^ k) (show 0 < 2 by decide)
    have h5 := Nat.mod_lt (b / 2 ^ k) (show 0 < 2 by decide)
    split <;> omega
  have h2 : (a ^^^ b) % 2 ^ (k + 1) = (a ^^^ b) % 2 ^ k + 2 ^ k * ((a ^^^ b) / 2 ^ k % 2) := by
    rw [Nat.pow_succ, Nat.mod_mul]
  rw [h2, h1]
  split <;> simp

theorem half_step (a k : Nat) : a / 2 ^ k / 2 = a / 2 ^ (k + 1) := by rw [Nat.div_div_eq_div_mul, Nat.pow_succ]

set_option maxRecDepth 100000 in
set_option maxHeartbeats 1000000 in
theorem unlike_any (a b : Nat) (w : World) (ha : a < 256) (hb : b < 256) :
    Calls Try.prog 87 #[.int .u64 a, .int .u64 b] w fun e w' => e = .returned (.int .u64 ((a ^^^ b : Nat) : Int)) ∧ w = w' := by
  go_enter Try.func87, Try.ntmps87
  go_wp2
  go_loop [0, 1, 5, 6, 7] (fun x y o n i => ∃ k : Nat, k ≤ 8 ∧ i = .int .i64 k ∧ x = .int .u64 (a / 2 ^ k : Nat) ∧ y = .int .u64 (b / 2 ^ k : Nat) ∧ o = .int .u64 ((a ^^^ b) % 2 ^ k : Nat) ∧ n = .int .u64 (2 ^ k : Nat)) (fun _ _ _ _ i => 8 - (intOf i).toNat)
  case atStart => exact ⟨0, by omega, rfl, by simp, by simp, by simp [Nat.mod_one], rfl⟩
  case round =>
    obtain ⟨k, hk, rfl, rfl, rfl, rfl, rfl⟩ := hrel
    by_cases hlt : k < 8
    · have hp : 2 ^ k ≤ 2 ^ 7 := Nat.pow_le_pow_right (by decide) (by omega)
      have hx : (a ^^^ b) % 2 ^ k < 2 ^ k := Nat.mod_lt _ (Nat.pow_pos (by decide))
      have ha2 : a / 2 ^ k ≤ a := Nat.div_le_self _ _
      have hb2 : b / 2 ^ k ≤ b := Nat.div_le_self _ _
      have s1 := Lib.hid (xor_step a b k)
      have s2 := Lib.hid (half_step a k)
      have s3 := Lib.hid (half_step b k)
      have s4 := Lib.hid (Nat.pow_succ 2 k)
      by_cases he : a / 2 ^ k % 2 = b / 2 ^ k % 2
      · have He := Lib.hid he
        clear he
        generalize hA : a / 2 ^ k = A at *
        generalize hB : b / 2 ^ k = B at *
        generalize hX : (a ^^^ b) % 2 ^ k = X at *
        generalize hN : 2 ^ k = N at *
        clear hA hB hX hN
        have hq : ((A : Int) % 2 != (B : Int) % 2) = false := by have := He.out; simp; omega
        go_wp2
        go_round
        case rel => exact ⟨k + 1, hlt, by go_num, by rw [← s2.out]; simp, by rw [← s3.out]; simp, by rw [s1.out, if_pos He.out]; simp, by rw [s4.out]; simp⟩
        case measure => simp [intOf]; omega
      · have He := Lib.hid he
        clear he
        generalize hA : a / 2 ^ k = A at *
        generalize hB : b / 2 ^ k = B at *
        generalize hX : (a ^^^ b) % 2 ^ k = X at *
        generalize hN : 2 ^ k = N at *
        clear hA hB hX hN
        have hq : ((A : Int) % 2 != (B : Int) % 2) = true := by have := He.out; simp; omega
        go_wp2
        go_round
        case rel => exact ⟨k + 1, hlt, by go_num, by rw [← s2.out]; simp, by rw [← s3.out]; simp, by rw [s1.out, if_neg He.out]; simp, by rw [s4.out]; simp⟩
        case measure => simp [intOf]; omega
    · obtain rfl : k = 8 := by omega
      go_wp2
      go_ret
      have hv : a ^^^ b < 2 ^ 8 := Nat.xor_lt_two_pow (by omega) (by omega)
      exact ⟨ret_int (by omega), rfl⟩

theorem xor_byte (h c : Nat) (hc : c < 256) : h - h % 256 + ((h % 256) ^^^ c) = h ^^^ c := by
  have h1 : (h ^^^ c) / 256 = h / 256 := by
    have := Nat.shiftRight_xor_distrib (a := h) (b := c) (i := 8)
    rw [Nat.shiftRight_eq_div_pow, Nat.shiftRight_eq_div_pow, Nat.shiftRight_eq_div_pow] at this
    have h2 : c / 2 ^ 8 = 0 := Nat.div_eq_of_lt hc
    rw [h2, Nat.xor_zero] at this
    exact this
  have h2 : (h ^^^ c) % 256 = (h % 256) ^^^ c := by
    have := Nat.xor_mod_two_pow (a := h) (b := c) (n := 8)
    rw [show (2 : Nat) ^ 8 = 256 from rfl, Nat.mod_eq_of_lt hc] at this
    exact this
  omega

set_option maxRecDepth 100000 in
set_option maxHeartbeats 1000000 in
theorem refStep_any (h c : Nat) (w : World) (hh : h < 18446744073709551616) (hc : c < 256) :
    Calls Try.prog 84 #[.int .u64 h, .int .u8 c] w fun e w' => e = .returned (.int .u64 (stepH h c : Nat)) ∧ w = w' := by
  have hx := xor_byte h c hc
  have hlt : h ^^^ c < 2 ^ 64 := Nat.xor_lt_two_pow (by omega) (by omega)
  have hb : (h % 256) ^^^ c < 2 ^ 8 := Nat.xor_lt_two_pow (by omega) (by omega)
  have hl : h % 256 < 256 := by omega
  have hd : ((h : Int) % 256) = ((h % 256 : Nat) : Int) := by simp
  have hs : ((h : Int) - ((h % 256 : Nat) : Int)) + ((((h % 256) ^^^ c : Nat)) : Int) = ((h ^^^ c : Nat) : Int) := by omega
  have hst : IntKind.u64.wrap (((h ^^^ c : Nat) : Int) * 1099511628211) = (stepH h c : Nat) := by
    rw [show ((h ^^^ c : Nat) : Int) * 1099511628211 = (((h ^^^ c) * prime64 : Nat) : Int) by rw [Int.natCast_mul]; rfl, u64_wrap_mod]
    rfl
  have hle : h % 256 ≤ h := by omega
  generalize hm : h % 256 = m at *
  generalize hX : m ^^^ c = X at *
  generalize hY : h ^^^ c = Y at *
  have Hm := Lib.hid hm
  have HX := Lib.hid hX
  have Hst := Lib.hid hst
  have Hs := Lib.hid hs
  have Hd := Lib.hid hd
  clear hm hX hY hst hs hd hx
  go_enter Try.func84, Try.ntmps84
  go_wp2_with fail
  rw [Hd.out]
  refine (unlike_any m c _ hl hc).mono ?_
  rw [HX.out]
  rintro e w' ⟨rfl, rfl⟩
  have hbd : (h : Int) - (m : Int) + (X : Int) ≤ 18446744073709551615 := by have := Hs.out; omega
  go_wp2
  go_ret
  refine ⟨ret_int ?_, rfl⟩
  rw [← Hst.out, ← Hs.out]

/-! ### Key -/
/-- Eight bytes of a word, the highest one first. -/
def hG (f : Nat → Nat → Nat) (x h0 : Nat) : Nat → Nat
  | 0 => h0
  | k + 1 => f (hG f x h0 k) (x / (72057594037927936 / 256 ^ k) % 256)
def hF (x h0 k : Nat) : Nat := hG stepH x h0 k
theorem hF_succ (x h0 k : Nat) : hF x h0 (k + 1) = stepH (hF x h0 k) (x / (72057594037927936 / 256 ^ k) % 256) := rfl

theorem hF_lt (x h0 k : Nat) (h : h0 < 18446744073709551616) : hF x h0 k < 18446744073709551616 := by
  cases k with
  | zero => exact h
  | succ k => rw [hF_succ]; exact stepH_lt _ _

theorem sumL_nums (l : List Int) (h : ∀ n ∈ l, 0 ≤ n ∧ n < 256) (h0 : Nat) : (strOfNums l).data.toList.foldl (fun h b => stepH h b.toNat) h0 = l.foldl (fun h n => stepH h n.toNat) h0 := by
  rw [strOfNums_data]
  induction l generalizing h0 with
  | nil => rfl
  | cons a l ih =>
    have ha := h a (by simp)
    rw [List.map_cons, List.foldl_cons, List.foldl_cons]
    have e : (UInt8.ofNat a.toNat).toNat = a.toNat := by
      rw [UInt8.toNat_ofNat']
      omega
    rw [e]
    exact ih (fun n hn => h n (by simp [hn])) _

theorem byteI_bd (x k : Nat) : 0 ≤ byteI x k ∧ byteI x k < 256 := by unfold byteI; omega
theorem byteI_nat (x k : Nat) : (byteI x k).toNat = x / k % 256 := by unfold byteI; omega

theorem keyNums_hG (f : Nat → Nat → Nat) (hi lo b : Nat) : (keyNums hi lo).foldl (fun h n => f h n.toNat) b = hG f lo (hG f hi b 8) 8 := by
  simp only [keyNums, List.foldl_cons, List.foldl_nil, byteI_nat, hG, Nat.reducePow, Nat.reduceDiv]

theorem fnvKey_hF (hi lo : Nat) : fnvKey hi lo = hF lo (hF hi basis64 8) 8 := by
  have h : ∀ n ∈ keyNums hi lo, 0 ≤ n ∧ n < 256 := by
    intro n hn
    simp only [keyNums, List.mem_cons, List.not_mem_nil, or_false] at hn
    rcases hn with rfl | rfl | rfl | rfl | rfl | rfl | rfl | rfl | rfl | rfl | rfl | rfl | rfl | rfl | rfl | rfl <;> exact byteI_bd _ _
  unfold fnvKey keyStr sumL
  rw [sumL_nums _ h]
  exact keyNums_hG stepH hi lo basis64

set_option maxRecDepth 100000 in
set_option maxHeartbeats 1000000 in
theorem refFnvKey_any (hi lo : Nat) (w : World) (h1 : hi < 18446744073709551616) (h2 : lo < 18446744073709551616) :
    Calls Try.prog 79 #[keyV hi lo] w fun e w' => e = .returned (.int .u64 (fnvKey hi lo : Nat)) ∧ Below w.heap.size w w' := by
  have hk := Lib.hid (fnvKey_hF hi lo)
  unfold keyV
  go_enter Try.func79, Try.ntmps79
  go_wp2
  go_loop [3, 4, 5] (fun h d i => ∃ k : Nat, k ≤ 8 ∧ i = .int .i64 k ∧ d = .int .u64 (72057594037927936 / 256 ^ k : Nat) ∧ h = .int .u64 (hF hi basis64 k : Nat)) (fun _ _ i => 8 - (intOf i).toNat)
  case atStart => exact ⟨0, by omega, rfl, by simp, rfl⟩
  case round =>
    obtain ⟨k, hk8, rfl, rfl, rfl⟩ := hrel
    by_cases hlt : k < 8
    · have hst : hF hi basis64 (k + 1) = stepH (hF hi basis64 k) (hi / (72057594037927936 / 256 ^ k) % 256) := hF_succ _ _ _
      have hd : 72057594037927936 / 256 ^ k / 256 = 72057594037927936 / 256 ^ (k + 1) := by rw [Nat.div_div_eq_div_mul, Nat.pow_succ]
      have hp : 1 ≤ 72057594037927936 / 256 ^ k := by
        have h3 : 256 ^ k ≤ 256 ^ 7 := Nat.pow_le_pow_right (by decide) (by omega)
        exact (Nat.le_div_iff_mul_le (Nat.pow_pos (by decide))).2 (by omega)
      have hpu : 72057594037927936 / 256 ^ k ≤ 72057594037927936 := Nat.div_le_self _ _
      have hl := hF_lt hi basis64 k basis_lt
      have Hst := Lib.hid hst
      have Hd := Lib.hid hd
      clear hst hd
      generalize hx : 72057594037927936 / 256 ^ k = D at *
      generalize hy : hF hi basis64 k = H at *
      clear hx hy
      have hc : hi / D % 256 < 256 := Nat.mod_lt _ (by decide)
      have hdv : hi / D ≤ hi := Nat.div_le_self _ _
      have hdi : (hi : Int) / (D : Int) = ((hi / D : Nat) : Int) := by simp
      have hb1 : 0 ≤ (hi : Int) / (D : Int) := by rw [hdi]; exact Int.natCast_nonneg _
      have hb2 : (hi : Int) / (D : Int) ≤ 18446744073709551615 := by rw [hdi]; omega
      have hm : (hi : Int) / (D : Int) % 256 = ((hi / D % 256 : Nat) : Int) := by rw [hdi]; simp
      have Hm := Lib.hid hm
      clear hdi hm
      go_wp2_with fail
      rw [Hm.out]
      refine (refStep_any H (hi / D % 256) _ hl hc).mono ?_
      rintro e w' ⟨rfl, rfl⟩
      go_wp2
      go_round
      case rel => exact ⟨k + 1, hlt, by go_num, by rw [← Hd.out]; simp, by rw [Hst.out]⟩
      case measure => simp [intOf]; omega
    · obtain rfl : k = 8 := by omega
      have hB := hF_lt hi basis64 8 basis_lt
      generalize hF hi basis64 8 = B0 at *
      go_wp2
      go_loop [3, 4, 6] (fun h d i => ∃ k : Nat, k ≤ 8 ∧ i = .int .i64 k ∧ d = .int .u64 (72057594037927936 / 256 ^ k : Nat) ∧ h = .int .u64 (hF lo B0 k : Nat)) (fun _ _ i => 8 - (intOf i).toNat)
      case atStart => exact ⟨0, by omega, rfl, by simp, rfl⟩
      case round =>
        obtain ⟨k, hk8', rfl, rfl, rfl⟩ := hrel
        by_cases hlt : k < 8
        · have hst : hF lo B0 (k + 1) = stepH (hF lo B0 k) (lo / (72057594037927936 / 256 ^ k) % 256) := hF_succ _ _ _
          have hd : 72057594037927936 / 256 ^ k / 256 = 72057594037927936 / 256 ^ (k + 1) := by rw [Nat.div_div_eq_div_mul, Nat.pow_succ]
          have hp : 1 ≤ 72057594037927936 / 256 ^ k := by
            have h3 : 256 ^ k ≤ 256 ^ 7 := Nat.pow_le_pow_right (by decide) (by omega)
            exact (Nat.le_div_iff_mul_le (Nat.pow_pos (by decide))).2 (by omega)
          have hpu : 72057594037927936 / 256 ^ k ≤ 72057594037927936 := Nat.div_le_self _ _
          have hl := hF_lt lo B0 k hB
          have Hst := Lib.hid hst
          have Hd := Lib.hid hd
          clear hst hd
          generalize hx : 72057594037927936 / 256 ^ k = D at *
          generalize hy : hF lo B0 k = H at *
          clear hx hy
          have hc : lo / D % 256 < 256 := Nat.mod_lt _ (by decide)
          have hdv : lo / D ≤ lo := Nat.div_le_self _ _
          have hdi : (lo : Int) / (D : Int) = ((lo / D : Nat) : Int) := by simp
          have hb1 : 0 ≤ (lo : Int) / (D : Int) := by rw [hdi]; exact Int.natCast_nonneg _
          have hb2 : (lo : Int) / (D : Int) ≤ 18446744073709551615 := by rw [hdi]; omega
          have hm : (lo : Int) / (D : Int) % 256 = ((lo / D % 256 : Nat) : Int) := by rw [hdi]; simp
          have Hm := Lib.hid hm
          clear hdi hm
          go_wp2_with fail
          rw [Hm.out]
          refine (refStep_any H (lo / D % 256) _ hl hc).mono ?_
          rintro e w' ⟨rfl, rfl⟩
          go_wp2
          go_round
          case rel => exact ⟨k + 1, hlt, by go_num, by rw [← Hd.out]; simp, by rw [Hst.out]⟩
          case measure => simp [intOf]; omega
        · obtain rfl : k = 8 := by omega
          go_wp2
          go_ret
          exact ⟨ret_int (by rw [hk.out]), balloc (Below.refl _ _) _⟩

end Go.Proofs.Ythfkgffalhkeeaa
