/- Walks of the references' twins: flywheelref21.Check; Walks of calls.Cuts, Line, one, all, inner, Ops; Walks of calls.inner, Ops; Walks of calls.Ops; flywheelref04.Unlike: the bits of two bytes that are not alike; Walks of flywheelref04's Unlike, Step, Key, Fold, flywheelref05.Of, flywheelref29.Home: they are the program's; Walks of flywheelref04.Fold, flywheelref05.Of, flywheelref29.Home; Calls as they come in; The walk of StoreNone. -/
import Derived.Test.YtmniiodpbebnmaaGreatJ09
import Derived.Test.YtmniiodpbebnmaaGreatJ15
import Derived.Deep.AppendLies
import Derived.Deep.RegionLaw
import Derived.Test.YtmniiodpbebnmaaGreatJ01
import Derived.Test.YtmniiodpbebnmaaGreatJ02
import Derived.Deep.Slices
import Derived.Lib.SmallJoins
import Derived.Test.YtmniiodpbebnmaaGreatJ40
import Derived.Test.YtmniiodpbebnmaaGreatJ47
import Derived.Test.YtmniiodpbebnmaaGreatJ03
namespace Go.Proofs.YtmniiodpbebnmaaGreat

section
set_option linter.unusedSimpArgs false
set_option linter.unusedVariables false
open Go.RowKit Go.Lib

section
variable (id : ByteArray) (tick val handle a b tg tol win hold : Int) (w : World)

set_option maxRecDepth 100000 in
set_option maxHeartbeats 1000000 in
theorem ref21Check_1 (hid : id.size ≤ maxLen) :
    Calls Tryz.prog 33 #[callV (callK 1 id tick val handle a b tg tol win hold)] w fun e w' => e = .returned (.int .i64 (if idS id = true then serE tick val else 2)) ∧ Below w.heap.size w w' := by
  unfold callV callK
  simp only
  cases hi : idS id with
  | false =>
    have Hi := Lib.hid hi
    clear hi
    go_enter Tryz.func33, Tryz.ntmps33
    go_wp2_with (go_at_call 21; refine (id_any _ _ hid).mono ?_; rw [Hi.out]; rintro e w' ⟨rfl, rfl⟩)
    go_ret
    exact ⟨rfl, balloc (Below.refl _ _) _⟩
  | true =>
    have Hi := Lib.hid hi
    clear hi
    go_enter Tryz.func33, Tryz.ntmps33
    go_wp2_with (first | (go_at_call 21; refine (id_any _ _ hid).mono ?_; rw [Hi.out]; rintro e w' ⟨rfl, rfl⟩) | (go_at_call 91; refine (ref08Right_any _ _ _).mono ?_; rintro e w' ⟨rfl, rfl⟩))
    go_ret
    exact ⟨rfl, balloc (Below.refl _ _) _⟩

set_option maxRecDepth 100000 in
set_option maxHeartbeats 1000000 in
theorem ref21Check_2 :
    Calls Tryz.prog 33 #[callV (callK 2 id tick val handle a b tg tol win hold)] w fun e w' => e = .returned (.int .i64 (if tick < 0 then 3 else 0)) ∧ Below w.heap.size w w' := by
  unfold callV callK
  simp only
  by_cases ht : tick < 0
  · rw [if_pos ht]
    go_enter Tryz.func33, Tryz.ntmps33
    go_wp2
    go_ret
    exact ⟨rfl, balloc (Below.refl _ _) _⟩
  · rw [if_neg ht]
    go_enter Tryz.func33, Tryz.ntmps33
    go_wp2
    go_ret
    exact ⟨rfl, balloc (Below.refl _ _) _⟩

set_option maxRecDepth 100000 in
set_option maxHeartbeats 1000000 in
theorem ref21Check_6 (hid : id.size ≤ maxLen) :
    Calls Tryz.prog 33 #[callV (callK 6 id tick val handle a b tg tol win hold)] w fun e w' => e = .returned (.int .i64 (if idS id = true then polE ⟨a, b, tg, tol, win, hold⟩ else 2)) ∧ Below w.heap.size w w' := by
  unfold callV callK
  simp only
  cases hi : idS id with
  | false =>
    have Hi := Lib.hid hi
    clear hi
    go_enter Tryz.func33, Tryz.ntmps33
    go_wp2_with (go_at_call 21; refine (id_any _ _ hid).mono ?_; rw [Hi.out]; rintro e w' ⟨rfl, rfl⟩)
    go_ret
    exact ⟨rfl, balloc (Below.refl _ _) _⟩
  | true =>
    have Hi := Lib.hid hi
    clear hi
    cases hp : polB ⟨a, b, tg, tol, win, hold⟩ with
    | false =>
      have he : polE ⟨a, b, tg, tol, win, hold⟩ = 7 := by simp [polE, hp]
      rw [he]
      have Hp := Lib.hid hp
      clear hp he
      go_enter Tryz.func33, Tryz.ntmps33
      go_wp2_with (first | (go_at_call 21; refine (id_any _ _ hid).mono ?_; rw [Hi.out]; rintro e w' ⟨rfl, rfl⟩) | (go_at_call 92; refine (ref12Right_any ⟨a, b, tg, tol, win, hold⟩ _).mono ?_; rw [Hp.out]; rintro e w2 ⟨rfl, hb2⟩))
      go_ret
      exact ⟨rfl, bthen (balloc (Below.refl _ _) _) hb2⟩
    | true =>
      have he : polE ⟨a, b, tg, tol, win, hold⟩ = 0 := by simp [polE, hp]
      rw [he]
      have Hp := Lib.hid hp
      clear hp he
      go_enter Tryz.func33, Tryz.ntmps33
      go_wp2_with (first | (go_at_call 21; refine (id_any _ _ hid).mono ?_; rw [Hi.out]; rintro e w' ⟨rfl, rfl⟩) | (go_at_call 92; refine (ref12Right_any ⟨a, b, tg, tol, win, hold⟩ _).mono ?_; rw [Hp.out]; rintro e w2 ⟨rfl, hb2⟩))
      go_ret
      exact ⟨rfl, bthen (balloc (Below.refl _ _) _) hb2⟩

set_option maxRecDepth 100000 in
set_option maxHeartbeats 1000000 in
theorem ref21Check_5 (hid : id.size ≤ maxLen) :
    Calls Tryz.prog 33 #[callV (callK 5 id tick val handle a b tg tol win hold)] w fun e w' => e = .returned (.int .i64 (if idS id = true then 0 else 2)) ∧ Below w.heap.size w w' := by
  unfold callV callK
  simp only
  cases hi : idS id with
  | false =>
    have Hi := Lib.hid hi
    clear hi
    go_enter Tryz.func33, Tryz.ntmps33
    go_wp2_with (go_at_call 21; refine (id_any _ _ hid).mono ?_; rw [Hi.out]; rintro e w' ⟨rfl, rfl⟩)
    go_ret
    exact ⟨rfl, balloc (Below.refl _ _) _⟩
  | true =>
    have Hi := Lib.hid hi
    clear hi
    go_enter Tryz.func33, Tryz.ntmps33
    go_wp2_with (go_at_call 21; refine (id_any _ _ hid).mono ?_; rw [Hi.out]; rintro e w' ⟨rfl, rfl⟩)
    go_ret
    exact ⟨rfl, balloc (Below.refl _ _) _⟩

set_option maxRecDepth 100000 in
set_option maxHeartbeats 1000000 in
theorem ref21Check_7 (hid : id.size ≤ maxLen) :
    Calls Tryz.prog 33 #[callV (callK 7 id tick val handle a b tg tol win hold)] w fun e w' => e = .returned (.int .i64 (if idS id = true then 0 else 2)) ∧ Below w.heap.size w w' := by
  unfold callV callK
  simp only
  cases hi : idS id with
  | false =>
    have Hi := Lib.hid hi
    clear hi
    go_enter Tryz.func33, Tryz.ntmps33
    go_wp2_with (go_at_call 21; refine (id_any _ _ hid).mono ?_; rw [Hi.out]; rintro e w' ⟨rfl, rfl⟩)
    go_ret
    exact ⟨rfl, balloc (Below.refl _ _) _⟩
  | true =>
    have Hi := Lib.hid hi
    clear hi
    go_enter Tryz.func33, Tryz.ntmps33
    go_wp2_with (go_at_call 21; refine (id_any _ _ hid).mono ?_; rw [Hi.out]; rintro e w' ⟨rfl, rfl⟩)
    go_ret
    exact ⟨rfl, balloc (Below.refl _ _) _⟩

set_option maxRecDepth 100000 in
set_option maxHeartbeats 1000000 in
theorem ref21Check_3 :
    Calls Tryz.prog 33 #[callV (callK 3 id tick val handle a b tg tol win hold)] w fun e w' => e = .returned (.int .i64 (0)) ∧ Below w.heap.size w w' := by
  unfold callV callK
  simp only
  go_enter Tryz.func33, Tryz.ntmps33
  go_wp2
  go_ret
  exact ⟨rfl, balloc (Below.refl _ _) _⟩

set_option maxRecDepth 100000 in
set_option maxHeartbeats 1000000 in
theorem ref21Check_4 :
    Calls Tryz.prog 33 #[callV (callK 4 id tick val handle a b tg tol win hold)] w fun e w' => e = .returned (.int .i64 (0)) ∧ Below w.heap.size w w' := by
  unfold callV callK
  simp only
  go_enter Tryz.func33, Tryz.ntmps33
  go_wp2
  go_ret
  exact ⟨rfl, balloc (Below.refl _ _) _⟩

set_option maxRecDepth 100000 in
set_option maxHeartbeats 1000000 in
theorem ref21Check_8 :
    Calls Tryz.prog 33 #[callV (callK 8 id tick val handle a b tg tol win hold)] w fun e w' => e = .returned (.int .i64 (0)) ∧ Below w.heap.size w w' := by
  unfold callV callK
  simp only
  go_enter Tryz.func33, Tryz.ntmps33
  go_wp2
  go_ret
  exact ⟨rfl, balloc (Below.refl _ _) _⟩

set_option maxRecDepth 100000 in
set_option maxHeartbeats 1000000 in
theorem ref21Check_no (k : Int) (hk : k < 1 ∨ 8 < k) :
    Calls Tryz.prog 33 #[callV (callK k id tick val handle a b tg tol win hold)] w fun e w' => e = .returned (.int .i64 (14)) ∧ Below w.heap.size w w' := by
  unfold callV callK
  simp only
  by_cases h1 : k < 1
  · go_enter Tryz.func33, Tryz.ntmps33
    go_wp2
    go_ret
    exact ⟨rfl, balloc (Below.refl _ _) _⟩
  · have h2 : 8 < k := by omega
    clear hk
    go_enter Tryz.func33, Tryz.ntmps33
    go_wp2
    go_ret
    exact ⟨rfl, balloc (Below.refl _ _) _⟩

end

theorem ref21Check_any (c : CallD) (w : World) (hc : c.ok) :
    Calls Tryz.prog 33 #[callV c] w fun e w' => e = .returned (.int .i64 (chkC c)) ∧ Below w.heap.size w w' := by
  obtain ⟨kind, id, tick, val, handle, ⟨a, b, tg, tol, win, hold⟩⟩ := c
  obtain ⟨_, hid, _, _, _, _⟩ := hc
  simp only at hid
  rcases chk_kinds ⟨kind, id, tick, val, handle, ⟨a, b, tg, tol, win, hold⟩⟩ with h | h | h | h | h | h | h | h | h
  all_goals simp only at h
  · subst h
    have e : chkC ⟨1, id, tick, val, handle, ⟨a, b, tg, tol, win, hold⟩⟩ = if idS id = true then serE tick val else 2 := by
      cases hi : idS id <;> simp [chkC, hi]
    rw [e]; exact ref21Check_1 id tick val handle a b tg tol win hold w hid
  · subst h
    have e : chkC ⟨2, id, tick, val, handle, ⟨a, b, tg, tol, win, hold⟩⟩ = if tick < 0 then 3 else 0 := by simp [chkC]
    rw [e]; exact ref21Check_2 id tick val handle a b tg tol win hold w
  · subst h
    exact ref21Check_3 id tick val handle a b tg tol win hold w
  · subst h
    exact ref21Check_4 id tick val handle a b tg tol win hold w
  · subst h
    have e : chkC ⟨5, id, tick, val, handle, ⟨a, b, tg, tol, win, hold⟩⟩ = if idS id = true then 0 else 2 := by
      cases hi : idS id <;> simp [chkC, hi]
    rw [e]; exact ref21Check_5 id tick val handle a b tg tol win hold w hid
  · subst h
    have e : chkC ⟨6, id, tick, val, handle, ⟨a, b, tg, tol, win, hold⟩⟩ = if idS id = true then polE ⟨a, b, tg, tol, win, hold⟩ else 2 := by
      cases hi : idS id <;> cases hp : polB ⟨a, b, tg, tol, win, hold⟩ <;> simp [chkC, polE, hi, hp]
    rw [e]; exact ref21Check_6 id tick val handle a b tg tol win hold w hid
  · subst h
    have e : chkC ⟨7, id, tick, val, handle, ⟨a, b, tg, tol, win, hold⟩⟩ = if idS id = true then 0 else 2 := by
      cases hi : idS id <;> simp [chkC, hi]
    rw [e]; exact ref21Check_7 id tick val handle a b tg tol win hold w hid
  · subst h
    exact ref21Check_8 id tick val handle a b tg tol win hold w
  · have e : chkC ⟨kind, id, tick, val, handle, ⟨a, b, tg, tol, win, hold⟩⟩ = 14 := by simp [chkC, h]
    rw [e]; exact ref21Check_no id tick val handle a b tg tol win hold w kind h
end

section
set_option linter.unusedSimpArgs false
set_option linter.unusedVariables false
open Go.RowKit Go.Lib

/-! ### Rows of steps -/
end

section
set_option linter.unusedSimpArgs false
set_option linter.unusedVariables false
open Go.RowKit Go.Lib

/-! ### Two boxes that stand while others are made -/
section
variable {w a b : World} {n : Nat} {cs ds : Array Value}
end

section
variable (s : Nat) (sa lo hi : Int) (id : ByteArray) (tick val handle a b tg tol win hold : Int) (w : World)

end
end

section
set_option linter.unusedSimpArgs false
set_option linter.unusedVariables false
open Go.RowKit Go.Lib
end

section
set_option linter.unusedSimpArgs false
set_option linter.unusedVariables false
open Go.RowKit Go.Lib

theorem xor_step (a b k : Nat) : (a ^^^ b) % 2 ^ (k + 1) = (a ^^^ b) % 2 ^ k + if a / 2 ^ k % 2 = b / 2 ^ k % 2 then 0 else 2 ^ k := by
  have h1 : (a ^^^ b) / 2 ^ k % 2 = if a / 2 ^ k % 2 = b / 2 ^ k % 2 then 0 else 1 := by
    rw [← Nat.shiftRight_eq_div_pow, Nat.shiftRight_xor_distrib, Nat.shiftRight_eq_div_pow, Nat.shiftRight_eq_div_pow]
    have h2 := Nat.xor_mod_two_eq_one (a := a / 2 ^ k) (b := b / 2 ^ k)
    have h3 := Nat.mod_lt ((a / 2 ^ k) ^^^ (b / 2 ^ k)) (show 0 < 2 by decide)
    have h4 := Nat.mod_lt (a / 2 ^ k) (show 0 < 2 by decide)
    have h5 := Nat.mod_lt (b / 2 ^ k) (show 0 < 2 by decide)
    split <;> omega
  have h2 : (a ^^^ b) % 2 ^ (k + 1) = (a ^^^ b) % 2 ^ k + 2 ^ k * ((a ^^^ b) / 2 ^ k % 2) := by
    rw [Nat.pow_succ, Nat.mod_mul]
  rw [h2, h1]
  split <;> simp

theorem half_step (a k : Nat) : a / 2 ^ k / 2 = a / 2 ^ (k + 1) := by rw [Nat.div_div_eq_div_mul, Nat.pow_succ]

set_option maxRecDepth 100000 in
set_option maxHeartbeats 1000000 in
theorem unlike_any (a b : Nat) (w : World) (ha : a < 256) (hb : b < 256) :
    Calls Tryz.prog 214 #[.int .u64 a, .int .u64 b] w fun e w' => e = .returned (.int .u64 ((a ^^^ b : Nat) : Int)) ∧ w = w' := by
  go_enter Tryz.func214, Tryz.ntmps214
  go_wp2
  go_loop [0, 1, 5, 6, 7] (fun x y o n i => ∃ k : Nat, k ≤ 8 ∧ i = .int .i64 k ∧ x = .int .u64 (a / 2 ^ k : Nat) ∧ y = .int .u64 (b / 2 ^ k : Nat) ∧ o = .int .u64 ((a ^^^ b) % 2 ^ k : Nat) ∧ n = .int .u64 (2 ^ k : Nat)) (fun _ _ _ _ i => 8 - (intOf i).toNat)
  case atStart => exact ⟨0, by omega, rfl, by simp, by simp, by simp [Nat.mod_one], rfl⟩
  case round =>
    obtain ⟨k, hk, rfl, rfl, rfl, rfl, rfl⟩ := hrel
    by_cases hlt : k < 8
    · have hp : 2 ^ k ≤ 2 ^ 7 := Nat.pow_le_pow_right (by decide) (by omega)
      have hx : (a ^^^ b) % 2 ^ k < 2 ^ k := Nat.mod_lt _ (Nat.pow_pos (by decide))
      have ha2 : a / 2 ^ k ≤ a := Nat.div_le_self _ _
      have hb2 : b / 2 ^ k ≤ b := Nat.div_le_self _ _
      have s1 := Lib.hid (xor_step a b k)
      have s2 := Lib.hid (half_step a k)
      have s3 := Lib.hid (half_step b k)
      have s4 := Lib.hid (Nat.pow_succ 2 k)
      by_cases he : a / 2 ^ k % 2 = b / 2 ^ k % 2
      · have He := Lib.hid he
        clear he
        generalize hA : a / 2 ^ k = A at *
        generalize hB : b / 2 ^ k = B at *
        generalize hX : (a ^^^ b) % 2 ^ k = X at *
        generalize hN : 2 ^ k = N at *
        clear hA hB hX hN
        have hq : ((A : Int) % 2 != (B : Int) % 2) = false := by have := He.out; simp; omega
        go_wp2
        go_round
        case rel => exact ⟨k + 1, hlt, by go_num, by rw [← s2.out]; simp, by rw [← s3.out]; simp, by rw [s1.out, if_pos He.out]; simp, by rw [s4.out]; simp⟩
        case measure => simp [intOf]; omega
      · have He := Lib.hid he
        clear he
        generalize hA : a / 2 ^ k = A at *
        generalize hB : b / 2 ^ k = B at *
        generalize hX : (a ^^^ b) % 2 ^ k = X at *
        generalize hN : 2 ^ k = N at *
        clear hA hB hX hN
        have hq : ((A : Int) % 2 != (B : Int) % 2) = true := by have := He.out; simp; omega
        go_wp2
        go_round
        case rel => exact ⟨k + 1, hlt, by go_num, by rw [← s2.out]; simp, by rw [← s3.out]; simp, by rw [s1.out, if_neg He.out]; simp, by rw [s4.out]; simp⟩
        case measure => simp [intOf]; omega
    · obtain rfl : k = 8 := by omega
      go_wp2
      go_ret
      have hv : a ^^^ b < 2 ^ 8 := Nat.xor_lt_two_pow (by omega) (by omega)
      exact ⟨ret_int (by omega), rfl⟩

theorem xor_byte (h c : Nat) (hc : c < 256) : h - h % 256 + ((h % 256) ^^^ c) = h ^^^ c := by
  have h1 : (h ^^^ c) / 256 = h / 256 := by
    have := Nat.shiftRight_xor_distrib (a := h) (b := c) (i := 8)
    rw [Nat.shiftRight_eq_div_pow, Nat.shiftRight_eq_div_pow, Nat.shiftRight_eq_div_pow] at this
    have h2 : c / 2 ^ 8 = 0 := Nat.div_eq_of_lt hc
    rw [h2, Nat.xor_zero] at this
    exact this
  have h2 : (h ^^^ c) % 256 = (h % 256) ^^^ c := by
    have := Nat.xor_mod_two_pow (a := h) (b := c) (n := 8)
    rw [show (2 : Nat) ^ 8 = 256 from rfl, Nat.mod_eq_of_lt hc] at this
    exact this
  omega
end

section
set_option linter.unusedSimpArgs false
set_option linter.unusedVariables false
open Go.RowKit Go.Lib

set_option maxRecDepth 100000 in
set_option maxHeartbeats 1000000 in
theorem refStep_any (h c : Nat) (w : World) (hh : h < 18446744073709551616) (hc : c < 256) :
    Calls Tryz.prog 161 #[.int .u64 h, .int .u8 c] w fun e w' => e = .returned (.int .u64 (stepH h c : Nat)) ∧ w = w' := by
  have hx := xor_byte h c hc
  have hlt : h ^^^ c < 2 ^ 64 := Nat.xor_lt_two_pow (by omega) (by omega)
  have hb : (h % 256) ^^^ c < 2 ^ 8 := Nat.xor_lt_two_pow (by omega) (by omega)
  have hl : h % 256 < 256 := by omega
  have hd : ((h : Int) % 256) = ((h % 256 : Nat) : Int) := by simp
  have hs : ((h : Int) - ((h % 256 : Nat) : Int)) + ((((h % 256) ^^^ c : Nat)) : Int) = ((h ^^^ c : Nat) : Int) := by omega
  have hst : IntKind.u64.wrap (((h ^^^ c : Nat) : Int) * 1099511628211) = (stepH h c : Nat) := by
    rw [show ((h ^^^ c : Nat) : Int) * 1099511628211 = (((h ^^^ c) * prime64 : Nat) : Int) by rw [Int.natCast_mul]; rfl, u64_wrap_mod]
    rfl
  have hle : h % 256 ≤ h := by omega
  generalize hm : h % 256 = m at *
  generalize hX : m ^^^ c = X at *
  generalize hY : h ^^^ c = Y at *
  have Hm := Lib.hid hm
  have HX := Lib.hid hX
  have Hst := Lib.hid hst
  have Hs := Lib.hid hs
  have Hd := Lib.hid hd
  clear hm hX hY hst hs hd hx
  go_enter Tryz.func161, Tryz.ntmps161
  go_wp2_with fail
  rw [Hd.out]
  refine (unlike_any m c _ hl hc).mono ?_
  rw [HX.out]
  rintro e w' ⟨rfl, rfl⟩
  have hbd : (h : Int) - (m : Int) + (X : Int) ≤ 18446744073709551615 := by have := Hs.out; omega
  go_wp2
  go_ret
  refine ⟨ret_int ?_, rfl⟩
  rw [← Hst.out, ← Hs.out]

/-! ### Key -/
/-- Eight bytes of a word, the highest one first. -/
def hG (f : Nat → Nat → Nat) (x h0 : Nat) : Nat → Nat
  | 0 => h0
  | k + 1 => f (hG f x h0 k) (x / (72057594037927936 / 256 ^ k) % 256)
def hF (x h0 k : Nat) : Nat := hG stepH x h0 k
theorem hF_succ (x h0 k : Nat) : hF x h0 (k + 1) = stepH (hF x h0 k) (x / (72057594037927936 / 256 ^ k) % 256) := rfl

theorem hF_lt (x h0 k : Nat) (h : h0 < 18446744073709551616) : hF x h0 k < 18446744073709551616 := by
  cases k with
  | zero => exact h
  | succ k => rw [hF_succ]; exact stepH_lt _ _

theorem sumL_nums (l : List Int) (h : ∀ n ∈ l, 0 ≤ n ∧ n < 256) (h0 : Nat) : (strOfNums l).data.toList.foldl (fun h b => stepH h b.toNat) h0 = l.foldl (fun h n => stepH h n.toNat) h0 := by
  rw [strOfNums_data]
  induction l generalizing h0 with
  | nil => rfl
  | cons a l ih =>
    have ha := h a (by simp)
    rw [List.map_cons, List.foldl_cons, List.foldl_cons]
    have e : (UInt8.ofNat a.toNat).toNat = a.toNat := by
      rw [UInt8.toNat_ofNat']
      omega
    rw [e]
    exact ih (fun n hn => h n (by simp [hn])) _

theorem byteI_bd (x k : Nat) : 0 ≤ byteI x k ∧ byteI x k < 256 := by unfold byteI; omega
theorem byteI_nat (x k : Nat) : (byteI x k).toNat = x / k % 256 := by unfold byteI; omega

theorem keyNums_hG (f : Nat → Nat → Nat) (hi lo b : Nat) : (keyNums hi lo).foldl (fun h n => f h n.toNat) b = hG f lo (hG f hi b 8) 8 := by
  simp only [keyNums, List.foldl_cons, List.foldl_nil, byteI_nat, hG, Nat.reducePow, Nat.reduceDiv]

theorem fnvKey_hF (hi lo : Nat) : fnvKey hi lo = hF lo (hF hi basis64 8) 8 := by
  have h : ∀ n ∈ keyNums hi lo, 0 ≤ n ∧ n < 256 := by
    intro n hn
    simp only [keyNums, List.mem_cons, List.not_mem_nil, or_false] at hn
    rcases hn with rfl | rfl | rfl | rfl | rfl | rfl | rfl | rfl | rfl | rfl | rfl | rfl | rfl | rfl | rfl | rfl <;> exact byteI_bd _ _
  unfold fnvKey keyStr sumL
  rw [sumL_nums _ h]
  exact keyNums_hG stepH hi lo basis64

set_option maxRecDepth 100000 in
set_option maxHeartbeats 1000000 in
theorem refFnvKey_any (hi lo : Nat) (w : World) (h1 : hi < 18446744073709551616) (h2 : lo < 18446744073709551616) :
    Calls Tryz.prog 90 #[keyV hi lo] w fun e w' => e = .returned (.int .u64 (fnvKey hi lo : Nat)) ∧ Below w.heap.size w w' := by
  have hk := Lib.hid (fnvKey_hF hi lo)
  unfold keyV
  go_enter Tryz.func90, Tryz.ntmps90
  go_wp2
  go_loop [3, 4, 5] (fun h d i => ∃ k : Nat, k ≤ 8 ∧ i = .int .i64 k ∧ d = .int .u64 (72057594037927936 / 256 ^ k : Nat) ∧ h = .int .u64 (hF hi basis64 k : Nat)) (fun _ _ i => 8 - (intOf i).toNat)
  case atStart => exact ⟨0, by omega, rfl, by simp, rfl⟩
  case round =>
    obtain ⟨k, hk8, rfl, rfl, rfl⟩ := hrel
    by_cases hlt : k < 8
    · have hst : hF hi basis64 (k + 1) = stepH (hF hi basis64 k) (hi / (72057594037927936 / 256 ^ k) % 256) := hF_succ _ _ _
      have hd : 72057594037927936 / 256 ^ k / 256 = 72057594037927936 / 256 ^ (k + 1) := by rw [Nat.div_div_eq_div_mul, Nat.pow_succ]
      have hp : 1 ≤ 72057594037927936 / 256 ^ k := by
        have h3 : 256 ^ k ≤ 256 ^ 7 := Nat.pow_le_pow_right (by decide) (by omega)
        exact (Nat.le_div_iff_mul_le (Nat.pow_pos (by decide))).2 (by omega)
      have hpu : 72057594037927936 / 256 ^ k ≤ 72057594037927936 := Nat.div_le_self _ _
      have hl := hF_lt hi basis64 k basis_lt
      have Hst := Lib.hid hst
      have Hd := Lib.hid hd
      clear hst hd
      generalize hx : 72057594037927936 / 256 ^ k = D at *
      generalize hy : hF hi basis64 k = H at *
      clear hx hy
      have hc : hi / D % 256 < 256 := Nat.mod_lt _ (by decide)
      have hdv : hi / D ≤ hi := Nat.div_le_self _ _
      have hdi : (hi : Int) / (D : Int) = ((hi / D : Nat) : Int) := by simp
      have hb1 : 0 ≤ (hi : Int) / (D : Int) := by rw [hdi]; exact Int.natCast_nonneg _
      have hb2 : (hi : Int) / (D : Int) ≤ 18446744073709551615 := by rw [hdi]; omega
      have hm : (hi : Int) / (D : Int) % 256 = ((hi / D % 256 : Nat) : Int) := by rw [hdi]; simp
      have Hm := Lib.hid hm
      clear hdi hm
      go_wp2_with fail
      rw [Hm.out]
      refine (refStep_any H (hi / D % 256) _ hl hc).mono ?_
      rintro e w' ⟨rfl, rfl⟩
      go_wp2
      go_round
      case rel => exact ⟨k + 1, hlt, by go_num, by rw [← Hd.out]; simp, by rw [Hst.out]⟩
      case measure => simp [intOf]; omega
    · obtain rfl : k = 8 := by omega
      have hB := hF_lt hi basis64 8 basis_lt
      generalize hF hi basis64 8 = B0 at *
      go_wp2
      go_loop [3, 4, 6] (fun h d i => ∃ k : Nat, k ≤ 8 ∧ i = .int .i64 k ∧ d = .int .u64 (72057594037927936 / 256 ^ k : Nat) ∧ h = .int .u64 (hF lo B0 k : Nat)) (fun _ _ i => 8 - (intOf i).toNat)
      case atStart => exact ⟨0, by omega, rfl, by simp, rfl⟩
      case round =>
        obtain ⟨k, hk8', rfl, rfl, rfl⟩ := hrel
        by_cases hlt : k < 8
        · have hst : hF lo B0 (k + 1) = stepH (hF lo B0 k) (lo / (72057594037927936 / 256 ^ k) % 256) := hF_succ _ _ _
          have hd : 72057594037927936 / 256 ^ k / 256 = 72057594037927936 / 256 ^ (k + 1) := by rw [Nat.div_div_eq_div_mul, Nat.pow_succ]
          have hp : 1 ≤ 72057594037927936 / 256 ^ k := by
            have h3 : 256 ^ k ≤ 256 ^ 7 := Nat.pow_le_pow_right (by decide) (by omega)
            exact (Nat.le_div_iff_mul_le (Nat.pow_pos (by decide))).2 (by omega)
          have hpu : 72057594037927936 / 256 ^ k ≤ 72057594037927936 := Nat.div_le_self _ _
          have hl := hF_lt lo B0 k hB
          have Hst := Lib.hid hst
          have Hd := Lib.hid hd
          clear hst hd
          generalize hx : 72057594037927936 / 256 ^ k = D at *
          generalize hy : hF lo B0 k = H at *
          clear hx hy
          have hc : lo / D % 256 < 256 := Nat.mod_lt _ (by decide)
          have hdv : lo / D ≤ lo := Nat.div_le_self _ _
          have hdi : (lo : Int) / (D : Int) = ((lo / D : Nat) : Int) := by simp
          have hb1 : 0 ≤ (lo : Int) / (D : Int) := by rw [hdi]; exact Int.natCast_nonneg _
          have hb2 : (lo : Int) / (D : Int) ≤ 18446744073709551615 := by rw [hdi]; omega
          have hm : (lo : Int) / (D : Int) % 256 = ((lo / D % 256 : Nat) : Int) := by rw [hdi]; simp
          have Hm := Lib.hid hm
          clear hdi hm
          go_wp2_with fail
          rw [Hm.out]
          refine (refStep_any H (lo / D % 256) _ hl hc).mono ?_
          rintro e w' ⟨rfl, rfl⟩
          go_wp2
          go_round
          case rel => exact ⟨k + 1, hlt, by go_num, by rw [← Hd.out]; simp, by rw [Hst.out]⟩
          case measure => simp [intOf]; omega
        · obtain rfl : k = 8 := by omega
          go_wp2
          go_ret
          exact ⟨ret_int (by rw [hk.out]), balloc (Below.refl _ _) _⟩
end

section
set_option linter.unusedSimpArgs false
set_option linter.unusedVariables false
open Go.RowKit Go.Lib

theorem foldN_xor (h m : Nat) (h1 : 1 ≤ m) (h2 : m ≤ 32) : foldN h m = (h % 2 ^ m) ^^^ (h / 2 ^ m % 2 ^ m) := by
  rw [foldN, if_neg (by omega), Nat.xor_mod_two_pow]

set_option maxRecDepth 100000 in
set_option maxHeartbeats 2000000 in
theorem refFold_any (h m : Nat) (w : World) (hh : h < 18446744073709551616) (hm : m ≤ 6) :
    Calls Tryz.prog 89 #[.int .u64 h, .int .i64 m] w fun e w' => e = .returned (.int .u64 (foldN h m : Nat)) ∧ w = w' := by
  by_cases h0 : m < 1
  · obtain rfl : m = 0 := by omega
    have hv : foldN h 0 = 0 := by simp [foldN]
    rw [hv]
    clear hv
    go_enter Tryz.func89, Tryz.ntmps89
    go_wp2
    go_ret
    exact ⟨rfl, rfl⟩
  · have hfin := Lib.hid (foldN_xor h m (by omega) (by omega))
    have q0 : (1 : Int) ≤ (m : Int) := by omega
    go_enter Tryz.func89, Tryz.ntmps89
    go_wp2
    go_loop [5, 6] (fun d i => ∃ k : Nat, k ≤ m ∧ i = .int .i64 k ∧ d = .int .u64 (2 ^ k : Nat)) (fun _ i => m - (intOf i).toNat)
    case atStart => exact ⟨0, by omega, rfl, rfl⟩
    case round =>
      obtain ⟨k, hk, rfl, rfl⟩ := hrel
      have hp : 2 ^ k ≤ 2 ^ 6 := Nat.pow_le_pow_right (by decide) (by omega)
      have hp1 : 1 ≤ 2 ^ k := Nat.pow_pos (by decide)
      by_cases hlt : k < m
      · have s4 := Lib.hid (Nat.pow_succ 2 k)
        generalize hN : 2 ^ k = N at *
        clear hN
        go_wp2
        go_round
        case rel => exact ⟨k + 1, hlt, by go_num, by rw [s4.out]; simp⟩
        case measure => simp [intOf]; omega
      · obtain rfl : k = m := by omega
        have hA : h % 2 ^ k < 2 ^ k := Nat.mod_lt _ hp1
        have hB : h / 2 ^ k % 2 ^ k < 2 ^ k := Nat.mod_lt _ hp1
        have hAi : (h : Int) % ((2 ^ k : Nat) : Int) = ((h % 2 ^ k : Nat) : Int) := by simp
        have hBi : (h : Int) / ((2 ^ k : Nat) : Int) % ((2 ^ k : Nat) : Int) = ((h / 2 ^ k % 2 ^ k : Nat) : Int) := by simp
        have hd : h / 2 ^ k ≤ h := Nat.div_le_self _ _
        have hDi : (h : Int) / ((2 ^ k : Nat) : Int) = ((h / 2 ^ k : Nat) : Int) := by simp
        have hb1 : 0 ≤ (h : Int) / ((2 ^ k : Nat) : Int) := by rw [hDi]; exact Int.natCast_nonneg _
        have hb2 : (h : Int) / ((2 ^ k : Nat) : Int) ≤ 18446744073709551615 := by rw [hDi]; omega
        have HAi := Lib.hid hAi
        have HBi := Lib.hid hBi
        clear hAi hBi hDi hd
        generalize hx : h % 2 ^ k = A at *
        generalize hy : h / 2 ^ k % 2 ^ k = B at *
        have Hp : Hid (∀ j, j ≤ k → 2 ^ j ≤ 2 ^ 6) := Lib.hid (fun j hj => Nat.pow_le_pow_right (by decide) (by omega))
        have HA : Hid (A < 2 ^ k ∧ B < 2 ^ k) := Lib.hid ⟨hA, hB⟩
        clear hx hy
        generalize hN : 2 ^ k = N at HAi HBi hb1 hb2 hp hp1 hA hB ⊢
        have HN := Lib.hid hN
        clear hN
        go_wp2
        rw [HAi.out, HBi.out]
        have hk6 : (k : Int) ≤ 6 := by omega
        clear hb1 hb2 hlt hk
        go_loop [7, 8, 9, 10, 11] (fun x y o n i => ∃ j : Nat, j ≤ k ∧ i = .int .i64 j ∧ x = .int .u64 (A / 2 ^ j : Nat) ∧ y = .int .u64 (B / 2 ^ j : Nat) ∧ o = .int .u64 ((A ^^^ B) % 2 ^ j : Nat) ∧ n = .int .u64 (2 ^ j : Nat)) (fun _ _ _ _ i => k - (intOf i).toNat)
        case atStart => exact ⟨0, by omega, rfl, by simp, by simp, by simp [Nat.mod_one], rfl⟩
        case round =>
          obtain ⟨j, hj, rfl, rfl, rfl, rfl, rfl⟩ := hrel
          by_cases hlt2 : j < k
          · have hp := Hp.out j hj
            have hx : (A ^^^ B) % 2 ^ j < 2 ^ j := Nat.mod_lt _ (Nat.pow_pos (by decide))
            have ha2 : A / 2 ^ j ≤ A := Nat.div_le_self _ _
            have hb2 : B / 2 ^ j ≤ B := Nat.div_le_self _ _
            have s1 := Lib.hid (xor_step A B j)
            have s4 := Lib.hid (Nat.pow_succ 2 j)
            by_cases he : A / 2 ^ j % 2 = B / 2 ^ j % 2
            · have s2 := Lib.hid (half_step A j)
              have s3 := Lib.hid (half_step B j)
              have He := Lib.hid he
              clear he
              generalize hA' : A / 2 ^ j = A' at *
              generalize hB' : B / 2 ^ j = B' at *
              generalize hX' : (A ^^^ B) % 2 ^ j = X at *
              generalize hM' : 2 ^ j = M at *
              clear hA' hB' hX' hM'
              have hq : ((A' : Int) % 2 != (B' : Int) % 2) = false := by have := He.out; simp; omega
              go_wp2
              go_round
              case rel => exact ⟨j + 1, hlt2, by go_num, by rw [← s2.out]; simp, by rw [← s3.out]; simp, by rw [s1.out, if_pos He.out]; simp, by rw [s4.out]; simp⟩
              case measure => simp [intOf]; omega
            · have s2 := Lib.hid (half_step A j)
              have s3 := Lib.hid (half_step B j)
              have He := Lib.hid he
              clear he
              generalize hA' : A / 2 ^ j = A' at *
              generalize hB' : B / 2 ^ j = B' at *
              generalize hX' : (A ^^^ B) % 2 ^ j = X at *
              generalize hM' : 2 ^ j = M at *
              clear hA' hB' hX' hM'
              have hq : ((A' : Int) % 2 != (B' : Int) % 2) = true := by have := He.out; simp; omega
              go_wp2
              go_round
              case rel => exact ⟨j + 1, hlt2, by go_num, by rw [← s2.out]; simp, by rw [← s3.out]; simp, by rw [s1.out, if_neg He.out]; simp, by rw [s4.out]; simp⟩
              case measure => simp [intOf]; omega
          · obtain rfl : j = k := by omega
            go_wp2
            go_ret
            refine ⟨ret_int ?_, rfl⟩
            rw [hfin.out]
            have hv : A ^^^ B < 2 ^ j := Nat.xor_lt_two_pow HA.out.1 HA.out.2
            have hv2 : (A ^^^ B) % 2 ^ j = A ^^^ B := Nat.mod_eq_of_lt hv
            rw [show ((A ^^^ B : Nat) : Int) % 2 ^ j = (((A ^^^ B) % 2 ^ j : Nat) : Int) by simp, hv2]

set_option maxRecDepth 100000 in
set_option maxHeartbeats 1000000 in
theorem refOf_any (hi lo : Nat) (n : Int) (w : World) (h1 : hi < 18446744073709551616) (h2 : lo < 18446744073709551616) :
    Calls Tryz.prog 31 #[keyV hi lo, .int .i64 n] w fun e w' => e = .returned (.int .i64 (routeI hi lo n)) ∧ Below w.heap.size w w' := by
  cases hr : okSt n with
  | false =>
    have hv : routeI hi lo n = -1 := by simp [routeI, hr]
    have hb : (bitsI n < 0) := by
      have := bitsI_ok n
      rw [hr] at this
      simpa using this
    rw [hv]
    clear hr hv
    unfold keyV
    go_enter Tryz.func31, Tryz.ntmps31
    go_wp2_with (go_at_call 47; refine (ref05Bits_any n _).mono ?_; rintro e w' ⟨rfl, rfl⟩)
    go_ret
    exact ⟨rfl, balloc (Below.refl _ _) _⟩
  | true =>
    have hb := bitsI_bd n hr
    obtain ⟨m, hm⟩ := Int.eq_ofNat_of_zero_le hb.1
    have hv : routeI hi lo n = (foldN (fnvKey hi lo) m : Nat) := by simp [routeI, hr, hm]
    have hf := foldN_lt (fnvKey hi lo) m
    have hk := fnvKey_lt hi lo
    have hm6 : m ≤ 6 := by omega
    rw [hv]
    have Hm := Lib.hid hm
    clear hr hv hm hb
    unfold keyV
    go_enter Tryz.func31, Tryz.ntmps31
    go_wp2_with (first
      | (go_at_call 47; refine (ref05Bits_any n _).mono ?_; rw [Hm.out]; rintro e w' ⟨rfl, rfl⟩)
      | (go_at_call 90; refine (refFnvKey_any hi lo _ h1 h2).mono ?_; rintro e w1 ⟨rfl, hb1⟩)
      | (go_at_call 89; refine (refFold_any _ m _ hk hm6).mono ?_; rintro e w' ⟨rfl, rfl⟩))
    go_ret
    exact ⟨rfl, bthen (balloc (Below.refl _ _) _) hb1⟩
end

section
set_option linter.unusedSimpArgs false
set_option linter.unusedVariables false
open Go.RowKit Go.Lib Go.ChangeShapes Go.WideShapes Go.Joins

theorem i64_of_wf {n : Int} (h : (Lit.int .i64 n).wf = true) : I64 n := by simpa [Lit.wf, IntKind.min, IntKind.max, IntKind.signed, IntKind.bits, I64] using h

theorem cl_pol : Tryz.prog.cellsOf 35 = 6 := by kernel_rfl
theorem cl_call : Tryz.prog.cellsOf 37 = 11 := by kernel_rfl
theorem cl_i64 : Tryz.prog.cellsOf 2 = 1 := by kernel_rfl
theorem cl_int : Tryz.prog.cellsOf 3 = 1 := by kernel_rfl
theorem cl_str : Tryz.prog.cellsOf 9 = 1 := by kernel_rfl

theorem list6 {α : Type} {l : List α} (h : l.length = 6) : ∃ a0 a1 a2 a3 a4 a5, l = [a0, a1, a2, a3, a4, a5] := by
  match l, h with
  | [a0, a1, a2, a3, a4, a5], _ => exact ⟨_, _, _, _, _, _, rfl⟩
theorem list11 {α : Type} {l : List α} (h : l.length = 11) : ∃ a0 a1 a2 a3 a4 a5 a6 a7 a8 a9 a10, l = [a0, a1, a2, a3, a4, a5, a6, a7, a8, a9, a10] := by
  match l, h with
  | [a0, a1, a2, a3, a4, a5, a6, a7, a8, a9, a10], _ => exact ⟨_, _, _, _, _, _, _, _, _, _, _, rfl⟩

section
variable {H : Type} {enc : TypeId × Value → H} {w : World} {base : Nat} {spare : Nat → Bool} {held : Bool}

/-- One field of a struct that is a number. -/
theorem field_i64 {fuel : Nat} {t : TypeId} (ht : Tryz.prog.underlying t = some (.int .i64)) (hc : Tryz.prog.cellsOf t = 1) {cs : List Value} {xs : List (DataW H × List MemPlace)} {i o : Nat} (hi : i < xs.length) {v : Value} (hv : cs.drop o = v :: cs.drop (o + 1))
    (h : DataW.trod enc Tryz.prog w base spare held fuel t ((cs.drop o).take (Tryz.prog.cellsOf t)) = xs[i]?) : ∃ n, v = .int .i64 n ∧ I64 n := by
  rw [hc, hv, List.take_succ_cons, List.take_zero, List.getElem?_eq_getElem hi] at h
  obtain ⟨n, hn, _, hw⟩ := DataW.trod_int ht h
  simp only [List.cons.injEq, and_true] at hn
  exact ⟨n, hn, i64_of_wf hw⟩

theorem field_str {fuel : Nat} {t : TypeId} (ht : Tryz.prog.underlying t = some .string) (hc : Tryz.prog.cellsOf t = 1) {cs : List Value} {xs : List (DataW H × List MemPlace)} {i o : Nat} (hi : i < xs.length) {v : Value} (hv : cs.drop o = v :: cs.drop (o + 1))
    (h : DataW.trod enc Tryz.prog w base spare held fuel t ((cs.drop o).take (Tryz.prog.cellsOf t)) = xs[i]?) : ∃ s : ByteArray, v = .string s ∧ s.size ≤ maxLen := by
  rw [hc, hv, List.take_succ_cons, List.take_zero, List.getElem?_eq_getElem hi] at h
  obtain ⟨n, hn, _, hw⟩ := DataW.trod_string ht h
  simp only [List.cons.injEq, and_true] at hn
  exact ⟨n, hn, hw⟩

theorem pol_reads {fuel : Nat} {cs : List Value} {x : DataW H × List MemPlace} (h : DataW.trod enc Tryz.prog w base spare held fuel 35 cs = some x) :
    ∃ p : Pol, p.ok ∧ cs = [.int .i64 p.mn, .int .i64 p.mx, .int .i64 p.tg, .int .i64 p.tol, .int .i64 p.win, .int .i64 p.hold] := by
  obtain ⟨xs, n, _, _, hl, hx, hf⟩ := DataW.trod_struct Tryz.underlying35 h
  rw [cl_pol] at hl
  replace hx : xs.length = 6 := hx
  obtain ⟨a0, a1, a2, a3, a4, a5, rfl⟩ := list6 hl
  obtain ⟨n0, rfl, k0⟩ := field_i64 Tryz.underlying2 cl_i64 (i := 0) (by omega) (o := 0) rfl (hf 0 _ rfl)
  obtain ⟨n1, rfl, k1⟩ := field_i64 Tryz.underlying2 cl_i64 (i := 1) (by omega) (o := 1) rfl (hf 1 _ rfl)
  obtain ⟨n2, rfl, k2⟩ := field_i64 Tryz.underlying2 cl_i64 (i := 2) (by omega) (o := 2) rfl (hf 2 _ rfl)
  obtain ⟨n3, rfl, k3⟩ := field_i64 Tryz.underlying2 cl_i64 (i := 3) (by omega) (o := 3) rfl (hf 3 _ rfl)
  obtain ⟨n4, rfl, k4⟩ := field_i64 Tryz.underlying2 cl_i64 (i := 4) (by omega) (o := 4) rfl (hf 4 _ rfl)
  obtain ⟨n5, rfl, k5⟩ := field_i64 Tryz.underlying2 cl_i64 (i := 5) (by omega) (o := 5) rfl (hf 5 _ rfl)
  exact ⟨⟨n0, n1, n2, n3, n4, n5⟩, ⟨k0, k1, k2, k3, k4, k5⟩, rfl⟩

theorem call_reads {fuel : Nat} {cs : List Value} {x : DataW H × List MemPlace} (h : DataW.trod enc Tryz.prog w base spare held fuel 37 cs = some x) :
    ∃ c : CallD, c.ok ∧ cs = callCells c := by
  obtain ⟨xs, n, _, _, hl, hx, hf⟩ := DataW.trod_struct Tryz.underlying37 h
  rw [cl_call] at hl
  replace hx : xs.length = 6 := hx
  obtain ⟨a0, a1, a2, a3, a4, a5, a6, a7, a8, a9, a10, rfl⟩ := list11 hl
  obtain ⟨n0, rfl, k0⟩ := field_i64 Tryz.underlying3 cl_int (i := 0) (by omega) (o := 0) rfl (hf 0 _ rfl)
  obtain ⟨n1, rfl, k1⟩ := field_str Tryz.underlying9 cl_str (i := 1) (by omega) (o := 1) rfl (hf 1 _ rfl)
  obtain ⟨n2, rfl, k2⟩ := field_i64 Tryz.underlying2 cl_i64 (i := 2) (by omega) (o := 2) rfl (hf 2 _ rfl)
  obtain ⟨n3, rfl, k3⟩ := field_i64 Tryz.underlying2 cl_i64 (i := 3) (by omega) (o := 3) rfl (hf 3 _ rfl)
  obtain ⟨n4, rfl, k4⟩ := field_i64 Tryz.underlying3 cl_int (i := 4) (by omega) (o := 4) rfl (hf 4 _ rfl)
  have h5 := hf 5 _ rfl
  rw [List.getElem?_eq_getElem (by omega)] at h5
  obtain ⟨p, k5, hp⟩ := pol_reads h5
  replace hp : ([a5, a6, a7, a8, a9, a10] : List Value).take (Tryz.prog.cellsOf 35) = _ := hp
  rw [cl_pol] at hp
  simp only [List.take_succ_cons, List.take_zero, List.cons.injEq, and_true] at hp
  obtain ⟨rfl, rfl, rfl, rfl, rfl, rfl⟩ := hp
  exact ⟨⟨n0, n1, n2, n3, n4, p⟩, ⟨k0, k1, k2, k3, k4, k5⟩, rfl⟩

end
end

section
set_option linter.unusedSimpArgs false
set_option linter.unusedVariables false
open Go.RowKit Go.Lib Go.Sort

theorem cfgOk_of {c : Cfg} (hc : cfgB c = true) (hok : c.ok) : CfgOk c c.sa.toNat c.hi.toNat := by
  have h := hc
  unfold cfgB at h
  simp only [Bool.and_eq_true, decide_eq_true_eq] at h
  exact ⟨hc, by omega, by omega, hok⟩
set_option maxRecDepth 100000 in
set_option maxHeartbeats 4000000 in
theorem storeNone_bad (c : Cfg) (x : CallD) (k : Ky) (w : World) (hc : cfgB c = false) (hok : c.ok) (hx : x.ok) (hk : k.ok) :
    Calls Tryz.prog 7 #[cfgV c, callV x, .agg #[.int .u64 k.1, .int .u64 k.2]] w fun e w' => e = .returned (.bool true) ∧ Below w.heap.size w w' := by
  have CN := Lib.hid (fun W => stoNew_bad c W hc hok)
  have CR := Lib.hid (fun W => ref17Right_any c W)
  rw [hc] at CR
  have CK := Lib.hid (fun W => ref21Check_any x W hx)
  have CD := Lib.hid (fun W => stoDo_nil x hx W)
  obtain ⟨er, her⟩ : ∃ er, er = nilE x := ⟨_, rfl⟩
  rw [← her] at CD
  unfold nilE at her
  obtain ⟨e0, he0⟩ : ∃ e0, e0 = chkC x := ⟨_, rfl⟩
  rw [← he0] at CK her
  obtain ⟨kind, id, tick, val, handle, ⟨p0, p1, p2, p3, p4, p5⟩⟩ := x
  unfold cfgV at CN CR ⊢
  unfold callV at CK CD ⊢
  unfold repV repC repF st0 adv0 at CD
  dsimp only at CK CD ⊢
  clear hc he0
  by_cases h0 : e0 = 0
  all_goals
    first
      | rw [if_pos h0] at her
      | rw [if_neg h0] at her
    subst her
    first
      | subst h0
      | (have z := h0
         clear h0)
    go_enter Tryz.func7, Tryz.ntmps7
    go_wp2_with (first
      | (go_at_call 26
         refine calls_named ?_
         intro W1 hW1
         have HB1 := Lib.hid (show Below w.heap.size w W1 by rw [hW1]; exact balloc (balloc (balloc (Below.refl _ _) _) _) _)
         have HC1 := Lib.hid (show W1.heap[w.heap.size]? = some (.cells #[.int .i64 c.st, .int .i64 c.sa, .int .i64 c.lo, .int .i64 c.hi] 23 (0, 0)) by rw [hW1]; exact box3_0 _ _ _ _)
         have HX1 := Lib.hid (show W1.heap[w.heap.size + 1]? = some (.cells #[.int .i64 kind, .string id, .int .i64 tick, .int .i64 val, .int .i64 handle, .int .i64 p0, .int .i64 p1, .int .i64 p2, .int .i64 p3, .int .i64 p4, .int .i64 p5] 37 (0, 0)) by rw [hW1]; exact box3_1 _ _ _ _)
         have HK1 := Lib.hid (show W1.heap[w.heap.size + 1 + 1]? = some (.cells #[.int .u64 k.1, .int .u64 k.2] 74 (0, 0)) by rw [hW1]; exact box3_2 _ _ _ _)
         clear hW1
         refine (awake21_any W1).mono ?_
         rintro e w2 ⟨rfl, hb⟩
         have HB2 := Lib.hid (bthen HB1.out hb)
         have HC2 := Lib.hid ((hb.block _ (Array.getElem?_eq_some_iff.1 HC1.out).1).trans HC1.out)
         have HX2 := Lib.hid ((hb.block _ (Array.getElem?_eq_some_iff.1 HX1.out).1).trans HX1.out)
         have HK2 := Lib.hid ((hb.block _ (Array.getElem?_eq_some_iff.1 HK1.out).1).trans HK1.out)
         obtain ⟨c1, c2, c3⟩ := box_cells (Below.refl _ _) HC2.out
         clear hb)
      | (go_at_call 27
         refine (CN.out _).mono ?_
         rintro e w3 ⟨rfl, hb⟩
         have HB3 := Lib.hid (bthen HB2.out hb)
         have HC3 := Lib.hid ((hb.block _ (Array.getElem?_eq_some_iff.1 HC2.out).1).trans HC2.out)
         have HX3 := Lib.hid ((hb.block _ (Array.getElem?_eq_some_iff.1 HX2.out).1).trans HX2.out)
         have HK3 := Lib.hid ((hb.block _ (Array.getElem?_eq_some_iff.1 HK2.out).1).trans HK2.out)
         clear c1 c2 c3
         obtain ⟨c1, c2, c3⟩ := box_cells (Below.refl _ _) HC3.out
         clear hb)
      | (go_at_call 13
         refine (CR.out _).mono ?_
         rintro e w4 ⟨rfl, hb⟩
         have HB4 := Lib.hid (bthen HB3.out hb)
         have HX4 := Lib.hid ((hb.block _ (Array.getElem?_eq_some_iff.1 HX3.out).1).trans HX3.out)
         have HK4 := Lib.hid ((hb.block _ (Array.getElem?_eq_some_iff.1 HK3.out).1).trans HK3.out)
         clear c1 c2 c3
         obtain ⟨c1, c2, c3⟩ := box_cells (Below.refl _ _) HX4.out
         clear hb)
      | (go_at_call 33
         refine (CK.out _).mono ?_
         rintro e w5 ⟨rfl, hb⟩
         have HB5 := Lib.hid (bthen HB4.out hb)
         have HX5 := Lib.hid ((hb.block _ (Array.getElem?_eq_some_iff.1 HX4.out).1).trans HX4.out)
         have HK5 := Lib.hid ((hb.block _ (Array.getElem?_eq_some_iff.1 HK4.out).1).trans HK4.out)
         clear hb c1 c2 c3)
      | (go_at_call 34
         refine calls_named ?_
         intro W6 hW6
         have hb : Below w5.heap.size w5 W6 := by rw [hW6]; exact balloc (Below.refl _ _) _
         have HB6 := Lib.hid (bthen HB5.out hb)
         have HX6 := Lib.hid ((hb.block _ (Array.getElem?_eq_some_iff.1 HX5.out).1).trans HX5.out)
         have HK6 := Lib.hid ((hb.block _ (Array.getElem?_eq_some_iff.1 HK5.out).1).trans HK5.out)
         clear hW6 hb
         refine (stoPublish_nil _ _).mono ?_
         rintro e w6 ⟨rfl, rfl⟩)
      | (go_at_call 35
         refine (stoCut_nil _ _).mono ?_
         rintro e w7 ⟨rfl, rfl⟩
         obtain ⟨c1, c2, c3⟩ := box_cells (Below.refl _ _) HX6.out)
      | (go_at_call 28
         refine (CD.out _).mono ?_
         rintro e w8 ⟨rfl, hb⟩
         have HB8 := Lib.hid (bthen HB6.out hb)
         have HK8 := Lib.hid ((hb.block _ (Array.getElem?_eq_some_iff.1 HK6.out).1).trans HK6.out)
         clear c1 c2 c3
         obtain ⟨c1, c2, c3⟩ := box_cells (Below.refl _ _) HK8.out
         clear hb)
      | (go_at_call 29
         refine (stoCount_nil _).mono ?_
         rintro e w9 ⟨rfl, rfl⟩)
      | (go_at_call 30
         refine (stoHome_nil k hk _).mono ?_
         rintro e w10 ⟨rfl, hb⟩
         have HB10 := Lib.hid (bthen HB8.out hb)
         clear hb)
      | (go_at_call 36
         refine (stoFree_nil _ _).mono ?_
         rintro e w11 ⟨rfl, rfl⟩)
      | (go_at_call 37
         refine (stoShut_nil _).mono ?_
         rintro e w12 ⟨rfl, rfl⟩))
    go_ret
    exact ⟨by simp, HB10.out⟩
set_option maxRecDepth 100000 in
set_option maxHeartbeats 4000000 in
theorem storeNone_good (c : Cfg) (x : CallD) (k : Ky) (w : World) (hc : cfgB c = true) (hok : c.ok) (hx : x.ok) (hk : k.ok) :
    Calls Tryz.prog 7 #[cfgV c, callV x, .agg #[.int .u64 k.1, .int .u64 k.2]] w fun e w' => e = .returned (.bool true) ∧ Below w.heap.size w w' := by
  have hcc := cfgOk_of hc hok
  have hst : okSt c.st = true := by unfold cfgB at hc; simp only [Bool.and_eq_true] at hc; exact hc.1
  have hbd := okSt_bd _ hst
  have CN := Lib.hid (fun W => sw_new (w := W) hcc)
  have CR := Lib.hid (fun W => ref17Right_any c W)
  rw [hc] at CR
  have CO := Lib.hid (fun W => refOf_any k.1 k.2 c.st W hk.1 hk.2)
  have HL := Lib.hid (show ∀ (B : Nat → Prop) W S d, SW B W S c c.sa.toNat c.hi.toNat 0 (newW c.st.toNat) d → (d.sts.length : Int) = c.st from fun B W S d h => by
    have := h.at_.len
    rw [this]
    simp [newW]
    omega)
  have CC := Lib.hid (show ∀ (B : Nat → Prop) W S d, SW B W S c c.sa.toNat c.hi.toNat 0 (newW c.st.toNat) d → Calls Tryz.prog 29 #[.pointer (some ⟨S, 0, none⟩)] W fun e w' => e = .returned (.int .i64 c.st) ∧ w' = W from fun B W S d h => by
    have hl := HL.out B W S d h
    have := stoCount_any W h.at_ (by omega)
    rw [hl] at this
    exact this)
  have CH := Lib.hid (show ∀ (B : Nat → Prop) W S d, SW B W S c c.sa.toNat c.hi.toNat 0 (newW c.st.toNat) d → Calls Tryz.prog 30 #[.pointer (some ⟨S, 0, none⟩), .agg #[.int .u64 k.1, .int .u64 k.2]] W fun e w' => e = .returned (.int .i64 (routeI k.1 k.2 c.st)) ∧ Below W.heap.size W w' from fun B W S d h => by
    have hl := HL.out B W S d h
    exact stoHome_any W h.at_ (by omega) hl (by omega) k hk)
  have CHi := Lib.hid (show ∀ (B : Nat → Prop) W S d, SW B W S c c.sa.toNat c.hi.toNat 0 (newW c.st.toNat) d → Calls Tryz.prog 32 #[.pointer (some ⟨S, 0, none⟩), .int .i64 c.st] W fun e w' => e = .returned (.pointer none) ∧ w' = W from fun B W S d h => by
    have hl := HL.out B W S d h
    exact stoStripe_high W h.at_ (by omega) c.st (by omega))
  obtain ⟨kind, id, tick, val, handle, ⟨p0, p1, p2, p3, p4, p5⟩⟩ := x
  unfold cfgV at CN CR ⊢
  unfold callV
  unfold keyV at CO
  dsimp only
  generalize routeI k.1 k.2 c.st = ro at CO CH
  clear hc hcc hst hbd hx hok
  go_enter Tryz.func7, Tryz.ntmps7
  go_wp2_with (first
    | (go_at_call 26
       refine calls_named ?_
       intro W1 hW1
       have HB1 := Lib.hid (show Below w.heap.size w W1 by rw [hW1]; exact balloc (balloc (balloc (Below.refl _ _) _) _) _)
       have HC1 := Lib.hid (show W1.heap[w.heap.size]? = some (.cells #[.int .i64 c.st, .int .i64 c.sa, .int .i64 c.lo, .int .i64 c.hi] 23 (0, 0)) by rw [hW1]; exact box3_0 _ _ _ _)
       have HK1 := Lib.hid (show W1.heap[w.heap.size + 1 + 1]? = some (.cells #[.int .u64 k.1, .int .u64 k.2] 74 (0, 0)) by rw [hW1]; exact box3_2 _ _ _ _)
       clear hW1
       refine (awake21_any W1).mono ?_
       rintro e w2 ⟨rfl, hb⟩
       have HB2 := Lib.hid (bthen HB1.out hb)
       have HC2 := Lib.hid ((hb.block _ (Array.getElem?_eq_some_iff.1 HC1.out).1).trans HC1.out)
       have HK2 := Lib.hid ((hb.block _ (Array.getElem?_eq_some_iff.1 HK1.out).1).trans HK1.out)
       obtain ⟨c1, c2, c3⟩ := box_cells (Below.refl _ _) HC2.out
       clear hb)
    | (go_at_call 27
       refine (CN.out _).mono ?_
       rintro e w3 ⟨S, d, rfl, hd, hb⟩
       have HD3 := Lib.hid hd
       have HB3 := Lib.hid (bthen HB2.out hb)
       have HC3 := Lib.hid ((hb.block _ (Array.getElem?_eq_some_iff.1 HC2.out).1).trans HC2.out)
       have HK3 := Lib.hid ((hb.block _ (Array.getElem?_eq_some_iff.1 HK2.out).1).trans HK2.out)
       clear c1 c2 c3
       obtain ⟨c1, c2, c3⟩ := box_cells (Below.refl _ _) HC3.out
       clear hb hd)
    | (go_at_call 13
       refine (CR.out _).mono ?_
       rintro e w4 ⟨rfl, hb⟩
       have HD4 := Lib.hid (HD3.out.below hb)
       have HB4 := Lib.hid (bthen HB3.out hb)
       have HC4 := Lib.hid ((hb.block _ (Array.getElem?_eq_some_iff.1 HC3.out).1).trans HC3.out)
       have HK4 := Lib.hid ((hb.block _ (Array.getElem?_eq_some_iff.1 HK3.out).1).trans HK3.out)
       clear hb c1 c2 c3))
  have rk0 : ∀ U, Below w4.heap.size w4 U → U.cell? ⟨w.heap.size + 1 + 1, 0, none⟩ = some (.int .u64 k.1) := fun U hU => (box_cells hU HK4.out).1 0
  have rk1 : ∀ U, Below w4.heap.size w4 U → U.cell? ⟨w.heap.size + 1 + 1, 1, none⟩ = some (.int .u64 k.2) := fun U hU => (box_cells hU HK4.out).1 1
  have rc0 : ∀ U, Below w4.heap.size w4 U → U.cell? ⟨w.heap.size, 0, none⟩ = some (.int .i64 c.st) := fun U hU => (box_cells hU HC4.out).1 0
  have hS00 : Below w4.heap.size w4 w4 := Below.refl _ _
  have hS0 : Below w4.heap.size w4 w4.drew := hS00.drew
  go_region_held3 (fun U => Below w4.heap.size w4 U)
    (first
      | with_reducible exact hS0
      | with_reducible exact HB6.out
      | with_reducible exact HB5.out
      | with_reducible exact hS00)
    (first
    | (go_at_call 29
       refine (CC.out _ _ _ _ (HD4.out.below ‹Below w4.heap.size w4 _›)).mono ?_
       rintro e w9 ⟨rfl, rfl⟩)
    | (go_at_call 30
       refine (CH.out _ _ _ _ (HD4.out.below ‹Below w4.heap.size w4 _›)).mono ?_
       rintro e w5 ⟨rfl, hb5⟩
       have HB5 := Lib.hid (bthen ‹Below w4.heap.size w4 _› hb5)
       clear hb5)
    | (go_at_call 31
       refine (CO.out _).mono ?_
       rintro e w6 ⟨rfl, hb6⟩
       have HB6 := Lib.hid (bthen ‹Below w4.heap.size w4 _› hb6)
       clear hb6)
    | (go_at_call 32
       with_reducible refine (stoStripe_low _ _ (-1) (by decide)).mono ?_
       rintro e w7 ⟨rfl, rfl⟩)
    | (go_at_call 32
       with_reducible refine (CHi.out _ _ _ _ (HD4.out.below ‹Below w4.heap.size w4 _›)).mono ?_
       rintro e w8 ⟨rfl, rfl⟩))
  all_goals
    go_wp2
    go_ret
    exact ⟨by simp, bthen HB4.out HB6.out⟩
theorem storeNone_any (c : Cfg) (x : CallD) (k : Ky) (w : World) (hok : c.ok) (hx : x.ok) (hk : k.ok) :
    Calls Tryz.prog 7 #[cfgV c, callV x, .agg #[.int .u64 k.1, .int .u64 k.2]] w fun e w' => e = .returned (.bool true) ∧ Below w.heap.size w w' := by
  cases hc : cfgB c with
  | true => exact storeNone_good c x k w hc hok hx hk
  | false => exact storeNone_bad c x k w hc hok hx hk
end

end Go.Proofs.YtmniiodpbebnmaaGreat
