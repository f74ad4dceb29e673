/- Walks of flywheelref04.Fold, flywheelref05.Of, flywheelref29.Home. -/
import Derived.Test.YthfkgffalhkeeaaRefFnv
namespace Go.Proofs.Ythfkgffalhkeeaa
open Go.RowKit Go.Lib

theorem foldN_xor (h m : Nat) (h1 : 1 ≤ m) (h2 : m ≤ 32) : foldN h m = (h % 2 ^ m) ^^^ (h / 2 ^ m % 2 ^ m) := by
  rw [foldN, if_neg (by omega), Nat.xor_mod_two_pow]

set_option maxRecDepth 100000 in
set_option maxHeartbeats 2000000 in
theorem refFold_any (h m : Nat) (w : World) (hh : h < 18446744073709551616) (hm : m ≤ 6) :
    Calls Try.prog 78 #[.int .u64 h, .int .i64 m] w fun e w' => e = .returned (.int .u64 (foldN h m : Nat)) ∧ w = w' := by
  by_cases h0 : m < 1
  · obtain rfl : m = 0 := by omega
    have hv : foldN h 0 = 0 := by simp [foldN]
    rw [hv]
    clear hv
    go_enter Try.func78, Try.ntmps78
    go_wp2
    go_ret
    exact ⟨rfl, rfl⟩
  · have hfin := Lib.hid (foldN_xor h m (by omega) (by omega))
    have q0 : (1 : Int) ≤ (m : Int) := by omega
    go_enter Try.func78, Try.ntmps78
    go_wp2
    go_loop [5, 6] (fun d i => ∃ k : Nat, k ≤ m ∧ i = .int .i64 k ∧ d = .int .u64 (2 ^ k : Nat)) (fun _ i => m - (intOf i).toNat)
    case atStart => exact ⟨0, by omega, rfl, rfl⟩
    case round =>
      obtain ⟨k, hk, rfl, rfl⟩ := hrel
      have hp : 2 ^ k ≤ 2 ^ 6 := Nat.pow_le_pow_right (by decide) (by omega)
      have hp1 : 1 ≤ 2 ^ k := Nat.pow_pos (by decide)
      by_cases hlt : k < m
      · have s4 := Lib.hid (Nat.pow_succ 2 k)
        generalize hN : 2 ^ k = N at *
        clear hN
        go_wp2
        go_round
        case rel => exact ⟨k + 1, hlt, by go_num, by rw [s4.out]; simp⟩
        case measure => simp [intOf]; omega
      · obtain rfl : k = m := by omega
        have hA : h % 2 ^ k < 2 ^ k := Nat.mod_lt _ hp1
        have hB : h / 2 ^ k % 2 ^ k < 2 ^ k := Nat.mod_lt _ hp1
        have hAi : (h : Int) % ((2 ^ k : Nat) : Int) = ((h % 2 ^ k : Nat) : Int) := by simp
        have hBi : (h : Int) / ((2 ^ k : Nat) : Int) % ((2 ^ k : Nat) : Int) = ((h / 2 ^ k % 2 ^ k : Nat) : Int) := by simp
        have hd : h / 2 ^ k ≤ h := Nat.div_le_self _ _
        have hDi : (h : Int) / ((2 ^ k : Nat) : Int) = ((h / 2 ^ k : Nat) : Int) := by simp
        have hb1 : 0 ≤ (h : Int) / ((2 ^ k : Nat) : Int) := by rw [hDi]; exact Int.natCast_nonneg _
        have hb2 : (h : Int) / ((2 ^ k : Nat) : Int) ≤ 18446744073709551615 := by rw [hDi]; omega
        have HAi := Lib.hid hAi
        have HBi := Lib.hid hBi
        clear hAi hBi hDi hd
        generalize hx : h % 2 ^ k = A at *
        generalize hy : h / 2 ^ k % 2 ^ k = B at *
        have Hp : Hid (∀ j, j ≤ k → 2 ^ j ≤ 2 ^ 6) := Lib.hid (fun j hj => Nat.pow_le_pow_right (by decide) (by omega))
        have HA : Hid (A < 2 ^ k ∧ B < 2 ^ k) := Lib.hid ⟨hA, hB⟩
        clear hx hy
        generalize hN : 2 ^ k = N at HAi HBi hb1 hb2 hp hp1 hA hB ⊢
        have HN := Lib.hid hN
        clear hN
        go_wp2
        rw [HAi.out, HBi.out]
        have hk6 : (k : Int) ≤ 6 := by omega
        clear hb1 hb2 hlt hk
        go_loop [7, 8, 9, 10, 11] (fun x y o n i => ∃ j : Nat, j ≤ k ∧ i = .int .i64 j ∧ x = .int .u64 (A / 2 ^ j : Nat) ∧ y = .int .u64 (B / 2 ^ j : Nat) ∧ o = .int .u64 ((A ^^^ B) % 2 ^ j : Nat) ∧ n = .int .u64 (2 ^ j : Nat)) (fun _ _ _ _ i => k - (intOf i).toNat)
        case atStart => exact ⟨0, by omega, rfl, by simp, by simp, by simp [Nat.mod_one], rfl⟩
        case round =>
          obtain ⟨j, hj, rfl, rfl, rfl, rfl, rfl⟩ := hrel
          by_cases hlt2 : j < k
          · have hp := Hp.out j hj
            have hx : (A ^^^ B) % 2 ^ j < 2 ^ j := Nat.mod_lt _ (Nat.pow_pos (by decide))
            have ha2 : A / 2 ^ j ≤ A := Nat.div_le_self _ _
            have hb2 : B / 2 ^ j ≤ B := Nat.div_le_self _ _
            have s1 := Lib.hid (xor_step A B j)
            have s4 := Lib.hid (Nat.pow_succ 2 j)
            by_cases he : A / 2 ^ j % 2 = B / 2 ^ j % 2
            · have s2 := Lib.hid (half_step A j)
              have s3 := Lib.hid (half_step B j)
              have He := Lib.hid he
              clear he
              generalize hA' : A / 2 ^ j = A' at *
              generalize hB' : B / 2 ^ j = B' at *
              generalize hX' : (A ^^^ B) % 2 ^ j = X at *
              generalize hM' : 2 ^ j = M at *
              clear hA' hB' hX' hM'
              have hq : ((A' : Int) % 2 != (B' : Int) % 2) = false := by have := He.out; simp; omega
              go_wp2
              go_round
              case rel => exact ⟨j + 1, hlt2, by go_num, by rw [← s2.out]; simp, by rw [← s3.out]; simp, by rw [s1.out, if_pos He.out]; simp, by rw [s4.out]; simp⟩
              case measure => simp [intOf]; omega
            · have s2 := Lib.hid (half_step A j)
              have s3 := Lib.hid (half_step B j)
              have He := Lib.hid he
              clear he
              generalize hA' : A / 2 ^ j = A' at *
              generalize hB' : B / 2 ^ j = B' at *
              generalize hX' : (A ^^^ B) % 2 ^ j = X at *
              generalize hM' : 2 ^ j = M at *
              clear hA' hB' hX' hM'
              have hq : ((A' : Int) % 2 != (B' : Int) % 2) = true := by have := He.out; simp; omega
              go_wp2
              go_round
              case rel => exact ⟨j + 1, hlt2, by go_num, by rw [← s2.out]; simp, by rw [← s3.out]; simp, by rw [s1.out, if_neg He.out]; simp, by rw [s4.out]; simp⟩
              case measure => simp [intOf]; omega
          · obtain rfl : j = k := by omega
            go_wp2
            go_ret
            refine ⟨ret_int ?_, rfl⟩
            rw [hfin.out]
            have hv : A ^^^ B < 2 ^ j := Nat.xor_lt_two_pow HA.out.1 HA.out.2
            have hv2 : (A ^^^ B) % 2 ^ j = A ^^^ B := Nat.mod_eq_of_lt hv
            rw [show ((A ^^^ B : Nat) : Int) % 2 ^ j = (((A ^^^ B) % 2 ^ j : Nat) : Int) by simp, hv2]

set_option maxRecDepth 100000 in
set_option maxHeartbeats 1000000 in
theorem refOf_any (hi lo : Nat) (n : Int) (w : World) (h1 : hi < 18446744073709551616) (h2 : lo < 18446744073709551616) :
    Calls Try.prog 71 #[keyV hi lo, .int .i64 n] w fun e w' => e = .returned (.int .i64 (routeI hi lo n)) ∧ Below w.heap.size w w' := by
  cases hr : okSt n with
  | false =>
    have hv : routeI hi lo n = -1 := by simp [routeI, hr]
    have hb : (bitsI n < 0) := by
      have := bitsI_ok n
      rw [hr] at this
      simpa using this
    rw [hv]
    clear hr hv
    unfold keyV
    go_enter Try.func71, Try.ntmps71
    go_wp2_with (go_at_call 54; refine (ref05Bits_any n _).mono ?_; rintro e w' ⟨rfl, rfl⟩)
    go_ret
    exact ⟨rfl, balloc (Below.refl _ _) _⟩
  | true =>
    have hb := bitsI_bd n hr
    obtain ⟨m, hm⟩ := Int.eq_ofNat_of_zero_le hb.1
    have hv : routeI hi lo n = (foldN (fnvKey hi lo) m : Nat) := by simp [routeI, hr, hm]
    have hf := foldN_lt (fnvKey hi lo) m
    have hk := fnvKey_lt hi lo
    have hm6 : m ≤ 6 := by omega
    rw [hv]
    have Hm := Lib.hid hm
    clear hr hv hm hb
    unfold keyV
    go_enter Try.func71, Try.ntmps71
    go_wp2_with (first
      | (go_at_call 54; refine (ref05Bits_any n _).mono ?_; rw [Hm.out]; rintro e w' ⟨rfl, rfl⟩)
      | (go_at_call 79; refine (refFnvKey_any hi lo _ h1 h2).mono ?_; rintro e w1 ⟨rfl, hb1⟩)
      | (go_at_call 78; refine (refFold_any _ m _ hk hm6).mono ?_; rintro e w' ⟨rfl, rfl⟩))
    go_ret
    exact ⟨rfl, bthen (balloc (Below.refl _ _) _) hb1⟩

set_option maxRecDepth 100000 in
set_option maxHeartbeats 1000000 in
theorem refHome_any (c : Cfg) (id : ByteArray) (w : World) (hid : id.size ≤ maxLen) :
    Calls Try.prog 55 #[cfgV c, .string id] w fun e w' => e = .returned (.int .i64 (homeI c.st id)) ∧ Below w.heap.size w w' := by
  obtain ⟨st, sa, lo, hi⟩ := c
  unfold cfgV
  simp only
  cases hi' : idS id with
  | false =>
    have hv : homeI st id = -1 := by simp [homeI, hi']
    rw [hv]
    have Hi := Lib.hid hi'
    clear hv hi'
    go_enter Try.func55, Try.ntmps55
    go_wp2_with (go_at_call 10; refine (id_any _ _ hid).mono ?_; rw [Hi.out]; rintro e w' ⟨rfl, rfl⟩)
    go_ret
    exact ⟨rfl, balloc (Below.refl _ _) _⟩
  | true =>
    have hv : homeI st id = routeI (hiN id.data.toList) (loN id.data.toList) st := by simp [homeI, hi']
    rw [hv]
    have a1 := hiN_lt id.data.toList
    have a2 := loN_lt id.data.toList
    have Hi := Lib.hid hi'
    clear hv hi'
    go_enter Try.func55, Try.ntmps55
    go_wp2_with (go_at_call 10; refine (id_any _ _ hid).mono ?_; rw [Hi.out]; rintro e w' ⟨rfl, rfl⟩)
    go_region_held3 (fun w' => (∀ j, w'.cell? ⟨w.heap.size, j, none⟩ = (#[.int .i64 st, .int .i64 sa, .int .i64 lo, .int .i64 hi] : Array Value)[j]?) ∧ Below w.heap.size w w' ∧ w.heap.size < w'.heap.size)
      (first | assumption | exact drewA (startA w _ _) | exact keepA (by assumption) hb1 rfl | exact keepA (by assumption) hb2 rfl)
      (first
        | (go_at_call 13; refine (refKey_any _ _ hid Hi.out).mono ?_; unfold keyS keyV; rintro e w1 ⟨rfl, hb1⟩)
        | (go_at_call 71; refine (refOf_any _ _ _ _ (by omega) (by omega)).mono ?_; rintro e w2 ⟨rfl, hb2⟩))
    all_goals
      have hX := ‹(∀ j, w2.cell? _ = _) ∧ _›
      have hfin := hX.2.1
      clear hX
      go_wp2
      go_ret
      exact ⟨rfl, hfin⟩

end Go.Proofs.Ythfkgffalhkeeaa
