/- Walks of the reference's Mul, Total and Up; Walk of flywheelref19.First where the key is there; The reference's window: From, Cut, Values, Sum; Walks of the reference's Mean and Is: a Stat is that of samples; Chapter 19's same: a cut tells just what parts have; by what its callees answer; Chapter 19's same, at two parts; Two stripes go on beside what was frozen of both; The walk of CutTells; The short ways of ctells; Calls as they come in; Acts on a stripe as they come in, their samples in range; a config that may be; CutTells, whole. -/
import Derived.Test.YtfegielnmdppgaaGreatJ47
import Derived.Test.YtfegielnmdppgaaGreatJ42
import Derived.Test.YtfegielnmdppgaaGreatJ39
import Derived.Test.YtfegielnmdppgaaGreatJ46
import Derived.Test.YtfegielnmdppgaaGreatJ45
import Derived.Test.YtfegielnmdppgaaGreatJ07
import Derived.Test.YtfegielnmdppgaaGreatJ01
import Derived.Deep.Slices
import Derived.Lib.SmallJoins
import Derived.Test.YtfegielnmdppgaaGreatJ31
namespace Go.Proofs.YtfegielnmdppgaaGreat

section
set_option linter.unusedSimpArgs false
set_option linter.unusedVariables false
open Go.RowKit Go.Lib

theorem list_named {P : Program} {ops : Array Oper} {Q : Exit → Act → World → Prop} {rest : List Oper} {a : Act} {w : World} (h : ∀ W, W = w → wpList P ops Q rest a W) : wpList P ops Q rest a w := h w rfl
theorem step_wanted {P : Program} {ops : Array Oper} {o : Oper} {a : Act} {w : World} {K : Act → World → Prop} {Q : Exit → Act → World → Prop} {X : Prop} (hg : o.guard = none) (h : Oper.wp P o a w K Q) : if Region.wanted o (yielded ops a.tmps) = true then Oper.wp P o a w K Q else X := by
  have hw : Region.wanted o (yielded ops a.tmps) = true := by simp [Region.wanted, hg]
  rw [if_pos hw]
  exact h
theorem mod_pow_succ (b i : Nat) : b % 2 ^ (i + 1) = b % 2 ^ i + 2 ^ i * (b.testBit i).toNat := by
  rw [Nat.pow_succ, Nat.mod_mul, ← bit_nat]
theorem numV_lt (n : Nat) : bitsL (0 : Nat).testBit = bitsL fun _ => false := bitsL_ext (fun j _ => by simp)

theorem zero_store (w : World) (B : Nat) (hB : w.heap.size = B) : (storeCells ⟨B, 0, none⟩ Tryz.zeroCells258.toList).run Tryz.prog (w.alloc (.cells Tryz.zeroCells258 258)) = .ok () (w.alloc (.cells Tryz.zeroCells258 258)) := by
  subst hB
  exact run_storeCells_new w 258 _ _ (by kernel_rfl) rfl (by rw [zero_bits]; exact bits_one _)
theorem bits_store (w : World) (B : Nat) (hB : w.heap.size = B) (f : Nat → Bool) : (storeCells ⟨B, 0, none⟩ (bitsL f)).run Tryz.prog (w.alloc (.cells Tryz.zeroCells258 258)) = .ok () (w.alloc (.cells (bitsL f).toArray 258)) := by
  subst hB
  have := run_storeCells_new (P := Tryz.prog) w 258 Tryz.zeroCells258 (bitsL f).toArray (num_sizeA f) (by rw [zero_bits]; simp [bitsL_len]) (bits_one f)
  simpa using this

set_option maxRecDepth 100000 in
set_option maxHeartbeats 4000000 in
theorem numMul_any (a b : Nat) (ha : a < 18446744073709551616) (hb2 : b < 18446744073709551616) (w : World) :
    Calls Tryz.prog 208 #[.int .u64 a, .int .u64 b] w fun e w' => e = .returned (numV (a * b)) ∧ Below w.heap.size w w' := by
  have CO := Lib.hid (fun W => show Calls Tryz.prog 211 #[.int .u64 0, .int .u64 a] W fun e w' => e = .returned (.agg (bitsL a.testBit).toArray) ∧ Below W.heap.size W w' from by
    have := numOf_any 0 a (by omega) ha W
    rw [Nat.zero_mul, Nat.zero_add] at this
    exact this)
  have CA := Lib.hid (fun (x y : Nat) (h : x + y < 340282366920938463463374607431768211456) W => numAdd_any x y (by omega) (by omega) h W)
  have HA := Lib.hid ha
  have HB2 := Lib.hid hb2
  have hst := zero_store (w.alloc (.cells Tryz.zeroCells258 258)) (w.heap.size + 1) (by simp)
  have hst2 := fun W => bits_store W W.heap.size rfl a.testBit
  clear ha hb2
  go_enter Tryz.func208, Tryz.ntmps208
  go_wp2_with (first
    | (go_at_call 211
       refine calls_named ?_
       intro W1 hW1
       rw [zero_bits] at hW1
       have hb1 : Below w.heap.size w W1 := by rw [hW1]; exact balloc (balloc (Below.refl _ _) _) _
       have hx1 : BitB W1 w.heap.size (fun _ => false) := by rw [hW1]; exact box_old _ _ _
       have hx2 : BitB W1 (w.heap.size + 1) (fun _ => false) := by rw [hW1]; exact box_new _ _ _
       have hsz : W1.heap.size = w.heap.size + 2 := by rw [hW1]; simp
       clear hW1
       refine (CO.out W1).mono ?_
       rintro e w2 ⟨rfl, hb2⟩
       have HX1 := Lib.hid (hx1.below hb2)
       have HX2 := Lib.hid (hx2.below hb2)
       have HB2w := Lib.hid (bthen hb1 hb2)
       have HSZ := Lib.hid (show w.heap.size + 2 ≤ w2.heap.size by have := hb2.size; omega)
       clear hb1 hx1 hx2 hb2 hsz))
  go_loopg [7] 64 (fun g s7 wr => ∃ (i o x : Nat), i ≤ 64 ∧ 64 - i ≤ g ∧ s7 = .int .i64 i ∧ Hid (o = a * (b % 2 ^ i) ∧ x = a * 2 ^ i) ∧ Below w.heap.size w wr ∧ BitB wr w.heap.size (fun _ => false) ∧ BitB wr (w.heap.size + 1) o.testBit ∧ BitB wr w2.heap.size x.testBit)
  case atStart => exact ⟨0, 0, a, by omega, Nat.le_refl _, rfl, Lib.hid (by simp [Nat.mod_one]), balloc HB2w.out _, HX1.out.below (balloc (Below.refl _ _) _), by
      have := HX2.out.below (balloc (Below.refl _ _) (.cells (bitsL a.testBit).toArray 258))
      unfold BitB at this ⊢
      rw [numV_lt 0]
      exact this, bit_new w2 a.testBit⟩
  case round =>
    obtain ⟨i, o, x, hi2, hg, rfl, HE, hb, hz, ho, hx⟩ := hrel
    rename World => wr
    have HB := Lib.hid hb
    have HZ := Lib.hid hz
    have HO := Lib.hid ho
    have HX := Lib.hid hx
    clear hb hz ho hx
    by_cases hlt : i < 64
    · have HL := Lib.hid hlt
      have z1 : (i : Int) < 64 := by omega
      have z4 : (0 : Int) ≤ (i : Int) := by omega
      have z7 : IntKind.u64.wrap (i : Int) = (i : Int) := u64_wrap i (by omega)
      have g1 := shr_bit b i HB2.out hlt
      have hbx := Nat.mod_lt b (Nat.two_pow_pos (i + 1))
      have hbl : b % 2 ^ (i + 1) ≤ b := Nat.mod_le _ _
      have hms := mod_pow_succ b i
      have hab : a * b < 340282366920938463463374607431768211456 := by
        have h1 := HA.out
        have h2 := HB2.out
        have h3 : a * b ≤ 18446744073709551615 * 18446744073709551615 := Nat.mul_le_mul (by omega) (by omega)
        omega
      have hox : a * (b % 2 ^ (i + 1)) ≤ a * b := Nat.mul_le_mul_left a hbl
      have HXS := Lib.hid (show 2 * x = a * 2 ^ (i + 1) by rw [HE.out.2, Nat.pow_succ, Nat.mul_comm (2 ^ i) 2, Nat.mul_left_comm])
      have CD := Lib.hid (fun W => show Calls Tryz.prog 245 #[.agg (bitsL x.testBit).toArray] W fun e w' => e = .returned (.agg (bitsL (2 * x).testBit).toArray) ∧ Below W.heap.size W w' from num2_any x W)
      cases hq : b.testBit i with
      | true =>
        rw [hq] at g1 hms
        have hsum : o + x = a * (b % 2 ^ (i + 1)) := by
          rw [HE.out.1, HE.out.2, hms, Nat.mul_add]
          simp
        have HSUM := Lib.hid hsum
        have CAx := Lib.hid (fun W => show Calls Tryz.prog 210 #[.agg (bitsL o.testBit).toArray, .agg (bitsL x.testBit).toArray] W fun e w' => e = .returned (.tuple #[.agg (bitsL (o + x).testBit).toArray, .bool true]) ∧ Below W.heap.size W w' from CA.out o x (by omega) W)
        clear hbx hbl hms hab hox hq hsum CA hlt
        as_aux_lemma =>
        go_wp2_with (first
          | (refine wpList_load_list rfl 258 (.tmp 5) rfl (w.heap.size + 1) 0 (bitsL o.testBit) HO.out.range (by rfl) _ Tryz.underlying258 (by rfl) (num_size o.testBit) ?_)
          | (go_at_call 210
             refine (CAx.out wr).mono ?_
             rintro e w4 ⟨rfl, hb4⟩
             have HB4 := Lib.hid (bthen HB.out hb4)
             have HZ4 := Lib.hid (HZ.out.below hb4)
             have HO4 := Lib.hid (HO.out.below hb4)
             have HX4 := Lib.hid (HX.out.below hb4)
             clear hb4)
          | (refine wpList_store_mid rfl 258 (.tmp 5) (.tmp 25) rfl (w.heap.size + 1) 0 (bitsL (o + x).testBit).toArray (by rfl) (by rfl) (HO4.out.there _) (num_sizeA _) (bits_one _) ?_
             refine list_named ?_
             intro W5 hW5
             obtain ⟨s1, s2, s3⟩ := HO4.out.store (o + x).testBit
             have hW5' : W5 = w4.setCells (w.heap.size + 1) 0 (bitsL (o + x).testBit) := hW5
             rw [← hW5'] at s1 s2 s3
             have HO5 := Lib.hid s1
             have HZ5 := Lib.hid (show BitB W5 w.heap.size (fun _ => false) from (s2 _ (by omega)).trans HZ4.out)
             have HX5 := Lib.hid (show BitB W5 w2.heap.size x.testBit from (s2 _ (by have := HSZ.out; omega)).trans HX4.out)
             have HB5 := Lib.hid (HB4.out.trans (s3 _ (by omega)))
             clear hW5 hW5' s1 s2 s3)
          | (refine wpList_load_list rfl 258 (.tmp 6) rfl (w2.heap.size) 0 (bitsL x.testBit) HX5.out.range (by rfl) _ Tryz.underlying258 (by rfl) (num_size x.testBit) ?_)
          | (refine wpList_load_list rfl 258 (.tmp 6) rfl (w2.heap.size) 0 (bitsL x.testBit) HX.out.range (by rfl) _ Tryz.underlying258 (by rfl) (num_size x.testBit) ?_)
          | (go_at_call 245
             refine (CD.out W5).mono ?_
             rintro e w6 ⟨rfl, hb6⟩
             have HB6 := Lib.hid (bthen HB5.out hb6)
             have HZ6 := Lib.hid (HZ5.out.below hb6)
             have HO6 := Lib.hid (HO5.out.below hb6)
             have HX6 := Lib.hid (HX5.out.below hb6)
             clear hb6)
          | (refine wpList_store_mid rfl 258 (.tmp 6) (.tmp 28) rfl (w2.heap.size) 0 (bitsL (2 * x).testBit).toArray (by rfl) (by rfl) (HX6.out.there _) (num_sizeA _) (bits_one _) ?_
             refine list_named ?_
             intro W7 hW7
             obtain ⟨s1, s2, s3⟩ := HX6.out.store (2 * x).testBit
             have hW7' : W7 = w6.setCells (w2.heap.size) 0 (bitsL (2 * x).testBit) := hW7
             rw [← hW7'] at s1 s2 s3
             have HX7 := Lib.hid s1
             have HZ7 := Lib.hid (show BitB W7 w.heap.size (fun _ => false) from (s2 _ (by have := HSZ.out; omega)).trans HZ6.out)
             have HO7 := Lib.hid (show BitB W7 (w.heap.size + 1) (o + x).testBit from (s2 _ (by have := HSZ.out; omega)).trans HO6.out)
             have HB7 := Lib.hid (HB6.out.trans (s3 _ (by have := HSZ.out; omega)))
             clear hW7 hW7' s1 s2 s3))
        go_roundg (64 - (i + 1))
        case measure => omega
        case rel => exact ⟨i + 1, o + x, 2 * x, HL.out, Nat.le_refl _, by go_num, Lib.hid ⟨HSUM.out, HXS.out⟩, HB7.out, HZ7.out, HO7.out, HX7.out⟩
      | false =>
        rw [hq] at g1 hms
        have HSUM := Lib.hid (show o = a * (b % 2 ^ (i + 1)) by rw [HE.out.1, hms]; simp)
        clear hbx hbl hms hab hox hq CA hlt
        as_aux_lemma =>
        go_wp2_with (first
          | (refine wpList_load_list rfl 258 (.tmp 6) rfl (w2.heap.size) 0 (bitsL x.testBit) HX.out.range (by rfl) _ Tryz.underlying258 (by rfl) (num_size x.testBit) ?_)
          | (go_at_call 245
             refine (CD.out wr).mono ?_
             rintro e w6 ⟨rfl, hb6⟩
             have HB6 := Lib.hid (bthen HB.out hb6)
             have HZ6 := Lib.hid (HZ.out.below hb6)
             have HO6 := Lib.hid (HO.out.below hb6)
             have HX6 := Lib.hid (HX.out.below hb6)
             clear hb6)
          | (refine wpList_store_mid rfl 258 (.tmp 6) (.tmp 28) rfl (w2.heap.size) 0 (bitsL (2 * x).testBit).toArray (by rfl) (by rfl) (HX6.out.there _) (num_sizeA _) (bits_one _) ?_
             refine list_named ?_
             intro W7 hW7
             obtain ⟨s1, s2, s3⟩ := HX6.out.store (2 * x).testBit
             have hW7' : W7 = w6.setCells (w2.heap.size) 0 (bitsL (2 * x).testBit) := hW7
             rw [← hW7'] at s1 s2 s3
             have HX7 := Lib.hid s1
             have HZ7 := Lib.hid (show BitB W7 w.heap.size (fun _ => false) from (s2 _ (by have := HSZ.out; omega)).trans HZ6.out)
             have HO7 := Lib.hid (show BitB W7 (w.heap.size + 1) o.testBit from (s2 _ (by have := HSZ.out; omega)).trans HO6.out)
             have HB7 := Lib.hid (HB6.out.trans (s3 _ (by have := HSZ.out; omega)))
             clear hW7 hW7' s1 s2 s3))
        go_roundg (64 - (i + 1))
        case measure => omega
        case rel => exact ⟨i + 1, o, 2 * x, HL.out, Nat.le_refl _, by go_num, Lib.hid ⟨HSUM.out, HXS.out⟩, HB7.out, HZ7.out, HO7.out, HX7.out⟩
    · obtain rfl : i = 64 := by omega
      have HEO := Lib.hid (show o = a * b by rw [HE.out.1]; congr 1; exact Nat.mod_eq_of_lt HB2.out)
      go_wp2_with (first
        | (refine wpList_load_list rfl 258 (.tmp 5) rfl (w.heap.size + 1) 0 (bitsL o.testBit) HO.out.range (by rfl) _ Tryz.underlying258 (by rfl) (num_size o.testBit) ?_)
        | (refine wpList_store_mid rfl 258 (.tmp 4) (.tmp 29) rfl (w.heap.size) 0 (bitsL o.testBit).toArray (by rfl) (by rfl) (HZ.out.there o.testBit) (num_sizeA o.testBit) (bits_one o.testBit) ?_))
      obtain ⟨hs1, _, hs3⟩ := HZ.out.store o.testBit
      refine bodyPost_ret (v := .agg (bitsL o.testBit).toArray) (results_cell_row Tryz.results208 _ _ _ _ _ _ _ (by rfl) hs1 Tryz.underlying258 rfl (num_sizeA _)) rfl ⟨?_, HB.out.trans (hs3 _ (Nat.le_refl _))⟩
      rw [HEO.out]
      rfl

theorem mulN_lt {a b : Nat} (ha : a < 18446744073709551616) (hb : b < 18446744073709551616) : a * b < 340282366920938463463374607431768211456 := by
  have h3 : a * b ≤ 18446744073709551615 * 18446744073709551615 := Nat.mul_le_mul (by omega) (by omega)
  omega

set_option maxRecDepth 100000 in
set_option maxHeartbeats 4000000 in
theorem numUp_any (n d q : Nat) (hn : n < 340282366920938463463374607431768211456) (hd : d < 18446744073709551616) (hq : q < 18446744073709551616) (w : World) :
    Calls Tryz.prog 169 #[numV n, .int .u64 d, .int .u64 q] w fun e w' => e = .returned (.bool (decide (n ≤ q * d ∧ (q = 0 ∨ (q - 1) * d < n)))) ∧ Below w.heap.size w w' := by
  have C1 := Lib.hid (fun W => show Calls Tryz.prog 208 #[.int .u64 q, .int .u64 d] W fun e w' => e = .returned (.agg (bitsL (q * d).testBit).toArray) ∧ Below W.heap.size W w' from numMul_any q d hq hd W)
  have C2 := Lib.hid (fun W => show Calls Tryz.prog 209 #[.agg (bitsL (q * d).testBit).toArray, .agg (bitsL n.testBit).toArray] W fun e w' => e = .returned (.int .i64 (cmpN (q * d) n)) ∧ Below W.heap.size W w' from numCmp_any (q * d) n (mulN_lt hq hd) hn W)
  have C3 := Lib.hid (fun W => show Calls Tryz.prog 208 #[.int .u64 (q - 1 : Nat), .int .u64 d] W fun e w' => e = .returned (.agg (bitsL ((q - 1) * d).testBit).toArray) ∧ Below W.heap.size W w' from numMul_any (q - 1) d (by omega) hd W)
  have C4 := Lib.hid (fun W => show Calls Tryz.prog 209 #[.agg (bitsL ((q - 1) * d).testBit).toArray, .agg (bitsL n.testBit).toArray] W fun e w' => e = .returned (.int .i64 (cmpN ((q - 1) * d) n)) ∧ Below W.heap.size W w' from numCmp_any ((q - 1) * d) n (mulN_lt (by omega) hd) hn W)
  have hst2 := fun W => bits_store W W.heap.size rfl (q * d).testBit
  unfold numV
  obtain ⟨hi, hhi⟩ : ∃ hi, hi = q * d := ⟨_, rfl⟩
  obtain ⟨lo, hlo⟩ : ∃ lo, lo = (q - 1) * d := ⟨_, rfl⟩
  rw [← hhi] at C1 C2 hst2
  rw [← hlo] at C3 C4
  have ARM : True := trivial
  by_cases h1 : hi < n
  · have HC := Lib.hid (show cmpN hi n = -1 by unfold cmpN; rw [if_neg (by omega), if_pos h1])
    have HR := Lib.hid (show decide (n ≤ q * d ∧ (q = 0 ∨ (q - 1) * d < n)) = false by rw [← hhi]; simp; omega)
    clear h1 hhi hlo hn hd hq
    as_aux_lemma =>
    go_enter Tryz.func169, Tryz.ntmps169
    go_wp2_with (first
      | (go_at_call 208
         refine calls_named ?_
         intro W1 hW1
         have hb1 : Below w.heap.size w W1 := by rw [hW1]; exact balloc (Below.refl _ _) _
         have hx1 : BitB W1 w.heap.size n.testBit := by rw [hW1]; exact heap_alloc_new _ _
         clear hW1
         refine (C1.out W1).mono ?_
         rintro e w2 ⟨rfl, hb2⟩
         have HX2 := Lib.hid ((hx1.below hb2).below (balloc (Below.refl _ _) (.cells (bitsL hi.testBit).toArray 258)))
         have HB2 := Lib.hid (bthen hb1 hb2)
         clear hb1 hx1 hb2)
      | (refine wpList_load_list rfl 258 (.tmp 7) rfl (w2.heap.size) 0 (bitsL hi.testBit) (BitB.range (bit_new w2 hi.testBit)) (by rfl) _ Tryz.underlying258 (by rfl) (num_size _) ?_)
      | (refine wpList_load_list rfl 258 (.tmp 3) rfl (w.heap.size) 0 (bitsL n.testBit) HX2.out.range (by rfl) _ Tryz.underlying258 (by rfl) (num_size _) ?_)
      | (go_at_call 209
         refine calls_named ?_
         intro W3 hW3
         have hb3 : Below w2.heap.size w2 W3 := by rw [hW3]; exact balloc (Below.refl _ _) _
         clear hW3
         refine (C2.out W3).mono ?_
         rw [HC.out]
         rintro e w4 ⟨rfl, hb4⟩
         have HB4 := Lib.hid (bthen HB2.out (bthen hb3 hb4))
         clear hb3 hb4))
    go_ret
    exact ⟨by rw [HR.out]; rfl, HB4.out⟩
  · obtain ⟨c, hc⟩ : ∃ c, c = cmpN hi n := ⟨_, rfl⟩
    have hc0 : ¬ c < 0 := by rw [hc]; unfold cmpN; split <;> (try split) <;> omega
    have HC := Lib.hid hc.symm
    clear hc
    by_cases h2 : q = 0
    · have HR := Lib.hid (show decide (n ≤ q * d ∧ (q = 0 ∨ (q - 1) * d < n)) = true by rw [← hhi]; simp [h2]; omega)
      subst h2
      clear h1 hhi hlo hn hd hq
      as_aux_lemma =>
      go_enter Tryz.func169, Tryz.ntmps169
      go_wp2_with (first
        | (go_at_call 208
           refine calls_named ?_
           intro W1 hW1
           have hb1 : Below w.heap.size w W1 := by rw [hW1]; exact balloc (Below.refl _ _) _
           have hx1 : BitB W1 w.heap.size n.testBit := by rw [hW1]; exact heap_alloc_new _ _
           clear hW1
           refine (C1.out W1).mono ?_
           rintro e w2 ⟨rfl, hb2⟩
           have HX2 := Lib.hid ((hx1.below hb2).below (balloc (Below.refl _ _) (.cells (bitsL hi.testBit).toArray 258)))
           have HB2 := Lib.hid (bthen hb1 hb2)
           clear hb1 hx1 hb2)
        | (refine wpList_load_list rfl 258 (.tmp 7) rfl (w2.heap.size) 0 (bitsL hi.testBit) (BitB.range (bit_new w2 hi.testBit)) (by rfl) _ Tryz.underlying258 (by rfl) (num_size _) ?_)
        | (refine wpList_load_list rfl 258 (.tmp 3) rfl (w.heap.size) 0 (bitsL n.testBit) HX2.out.range (by rfl) _ Tryz.underlying258 (by rfl) (num_size _) ?_)
        | (go_at_call 209
           refine calls_named ?_
           intro W3 hW3
           have hb3 : Below w2.heap.size w2 W3 := by rw [hW3]; exact balloc (Below.refl _ _) _
           clear hW3
           refine (C2.out W3).mono ?_
           rw [HC.out]
           rintro e w4 ⟨rfl, hb4⟩
           have HB4 := Lib.hid (bthen HB2.out (bthen hb3 hb4))
           clear hb3 hb4))
      go_ret
      exact ⟨by rw [HR.out]; rfl, HB4.out⟩
    · have HC2 := Lib.hid (show decide (n ≤ q * d ∧ (q = 0 ∨ (q - 1) * d < n)) = decide (cmpN lo n < 0) by
        rw [← hhi, ← hlo]
        rw [decide_eq_decide]
        unfold cmpN
        split
        · omega
        · split
          · omega
          · omega)
      have q1 : ((q : Int) == 0) = false := by simp; omega
      have q2 : IntKind.u64.wrap ((q : Int) - 1) = ((q - 1 : Nat) : Int) := by rw [IntKind.wrap_u64]; omega
      have q3 : ¬ (q : Int) = 0 := by omega
      clear h1 hhi hlo hn hd hq h2
      generalize cmpN lo n = c2 at C4 HC2
      obtain ⟨q', hq'⟩ : ∃ q', q' = q - 1 := ⟨_, rfl⟩
      rw [← hq'] at C3 q2
      clear hq'
      as_aux_lemma =>
      go_enter Tryz.func169, Tryz.ntmps169
      go_upto_region 6 with (first
          | (go_at_call 208
             refine calls_named ?_
             intro W1 hW1
             have hb1 : Below w.heap.size w W1 := by rw [hW1]; exact balloc (Below.refl _ _) _
             have hx1 : BitB W1 w.heap.size n.testBit := by rw [hW1]; exact heap_alloc_new _ _
             clear hW1
             refine (C1.out W1).mono ?_
             rintro e w2 ⟨rfl, hb2⟩
             have HX2 := Lib.hid ((hx1.below hb2).below (balloc (Below.refl _ _) (.cells (bitsL hi.testBit).toArray 258)))
             have HB2 := Lib.hid (bthen hb1 hb2)
             have HX2b := Lib.hid (hx1.below hb2)
             clear hb1 hx1 hb2)
          | (refine wpList_load_list rfl 258 (.tmp 7) rfl (w2.heap.size) 0 (bitsL hi.testBit) (BitB.range (bit_new w2 hi.testBit)) (by rfl) _ Tryz.underlying258 (by rfl) (num_size _) ?_)
          | (refine wpList_load_list rfl 258 (.tmp 3) rfl (w.heap.size) 0 (bitsL n.testBit) HX2.out.range (by rfl) _ Tryz.underlying258 (by rfl) (num_size _) ?_)
          | (go_at_call 209
             refine calls_named ?_
             intro W3 hW3
             have hb3 : Below w2.heap.size w2 W3 := by rw [hW3]; exact balloc (Below.refl _ _) _
             clear hW3
             refine (C2.out W3).mono ?_
             rw [HC.out]
             rintro e w4 ⟨rfl, hb4⟩
             have HB4 := Lib.hid (bthen HB2.out (bthen hb3 hb4))
             have HX4 := Lib.hid (HX2b.out.below hb3 |>.below hb4)
             clear hb3 hb4))
      have HB4r := Lib.hid (Below.refl w4.heap.size w4)
      refine wp_region_held_drew (S := (fun U : World => Below w4.heap.size w4 U)) (by kernel_rfl) ?hS1 (fun hHeld => ?_)
      case hS1 => first | with_reducible exact HB4r.out | exact HB4r.out.drew | with_reducible exact HB5.out | with_reducible exact HB6.out
      refine wpAnyH_take (i := 0) (v := ?v2) rfl (by kernel_rfl) (by kernel_rfl) (by kernel_rfl) (fun _ _ _ h => h) (Or.inl ⟨by rfl, ?hy2⟩) (by assumption) ?_
      case hy2 =>
        intro w' hSw
        (try dsimp only at hSw)
        go_simp
        try (with_reducible rfl)
      try simp only [Act.put, List.getElem_toArray, List.getElem_cons_succ, List.getElem_cons_zero, List.setIfInBounds_toArray, List.set_cons_zero, List.set_cons_succ]
      refine wpAnyH_take (i := 1) (v := ?v3) rfl (by kernel_rfl) (by kernel_rfl) (by kernel_rfl) (fun _ _ _ h => h) (Or.inl ⟨by rfl, ?hy3⟩) (by assumption) ?_
      case hy3 =>
        intro w' hSw
        (try dsimp only at hSw)
        go_simp
        try (with_reducible rfl)
      try simp only [Act.put, List.getElem_toArray, List.getElem_cons_succ, List.getElem_cons_zero, List.setIfInBounds_toArray, List.set_cons_zero, List.set_cons_succ]
      refine wpAnyH_take (i := 2) (v := ?v4) rfl (by kernel_rfl) (by kernel_rfl) (by kernel_rfl) (fun _ _ _ h => h) (Or.inl ⟨by rfl, ?hy4⟩) (by assumption) ?_
      case hy4 =>
        intro w' hSw
        (try dsimp only at hSw)
        go_simp
        try (with_reducible rfl)
      try simp only [Act.put, List.getElem_toArray, List.getElem_cons_succ, List.getElem_cons_zero, List.setIfInBounds_toArray, List.set_cons_zero, List.set_cons_succ]
      refine wpAnyH_take (i := 4) (v := .agg (bitsL n.testBit).toArray) rfl (by kernel_rfl) (by kernel_rfl) (by kernel_rfl) (fun _ _ _ h => h) (yieldsIf_load_mid (by rfl) 258 (.tmp 3) (by rfl) w.heap.size (0) (by rfl) (bitsL n.testBit) _ (fun U hU => (HX4.out.below hU).range) Tryz.underlying258 (by rfl) (num_size _)) (by assumption) ?_
      try simp only [Act.put, List.getElem_toArray, List.getElem_cons_succ, List.getElem_cons_zero, List.setIfInBounds_toArray, List.set_cons_zero, List.set_cons_succ]
      refine wpAnyH_ready (rs := [3]) (by kernel_rfl) (by simp) ?_
      refine AllReadyH.cons rfl (fun K hK => ?_) AllReadyH.nil
      go_simp
      go_at_call 208
      refine calls_named ?_
      intro W5 hW5
      have hb5 : Below w4.heap.size w4 W5 := by rw [hW5]; first | exact Below.refl _ _ | exact (Below.refl _ _).drew
      clear hW5
      refine (C3.out W5).mono ?_
      rintro e w5 ⟨rfl, hb6⟩
      have HB5 := Lib.hid (bthen hb5 hb6)
      clear hb5 hb6
      try go_simp
      refine hK.out _ _ ?hS5 (fun hHeld2 => ?_)
      case hS5 => first | with_reducible exact HB4r.out | exact HB4r.out.drew | with_reducible exact HB5.out | with_reducible exact HB6.out
      clear hK K hHeld
      have hHeld := hHeld2
      clear hHeld2
      try simp only [Act.put, List.getElem_toArray, List.getElem_cons_succ, List.getElem_cons_zero, List.setIfInBounds_toArray, List.set_cons_zero, List.set_cons_succ]
      refine wpAnyH_ready (rs := [5]) (by kernel_rfl) (by simp) ?_
      refine AllReadyH.cons rfl (fun K hK => ?_) AllReadyH.nil
      go_simp
      go_at_call 209
      refine (C4.out w5).mono ?_
      rintro e w6 ⟨rfl, hb6⟩
      have HB6 := Lib.hid (bthen HB5.out hb6)
      clear hb6
      try go_simp
      refine hK.out _ _ ?hS6 (fun hHeld2 => ?_)
      case hS6 => first | with_reducible exact HB4r.out | exact HB4r.out.drew | with_reducible exact HB5.out | with_reducible exact HB6.out
      clear hK K hHeld
      have hHeld := hHeld2
      clear hHeld2
      try simp only [Act.put, List.getElem_toArray, List.getElem_cons_succ, List.getElem_cons_zero, List.setIfInBounds_toArray, List.set_cons_zero, List.set_cons_succ]
      refine wpAnyH_take (i := 6) (v := ?v7) rfl (by kernel_rfl) (by kernel_rfl) (by kernel_rfl) (fun _ _ _ h => h) (Or.inl ⟨by rfl, ?hy7⟩) (by assumption) ?_
      case hy7 =>
        intro w' hSw
        (try dsimp only at hSw)
        go_simp
        try (with_reducible rfl)
      try simp only [Act.put, List.getElem_toArray, List.getElem_cons_succ, List.getElem_cons_zero, List.setIfInBounds_toArray, List.set_cons_zero, List.set_cons_succ]
      refine wpAnyH_take (i := 7) (v := ?v8) rfl (by kernel_rfl) (by kernel_rfl) (by kernel_rfl) (fun _ _ _ h => h) (Or.inl ⟨by rfl, ?hy8⟩) (by assumption) ?_
      case hy8 =>
        intro w' hSw
        (try dsimp only at hSw)
        go_simp
        try (with_reducible rfl)
      try simp only [Act.put, List.getElem_toArray, List.getElem_cons_succ, List.getElem_cons_zero, List.setIfInBounds_toArray, List.set_cons_zero, List.set_cons_succ]
      refine wpAnyH_done (by kernel_rfl) ?_ _
      go_wp2_with fail
      go_ret
      exact ⟨by rw [HC2.out]; rfl, bthen HB4.out HB6.out⟩

set_option maxRecDepth 100000 in
set_option maxHeartbeats 4000000 in
theorem numTotal_any (v : Value) (l : List Int) (w : World) (hv : RowIn 1 nmC w v l) (hl : l.length ≤ 1000000) (hi : ∀ n ∈ l, 0 ≤ n ∧ n ≤ 9223372036854775807) :
    Calls Tryz.prog 170 #[v] w fun e w' => e = .returned (numV (totN l)) ∧ Below w.heap.size w w' := by
  obtain ⟨A, c, rfl⟩ := hv.form
  have HV := Lib.hid hv
  have HI := Lib.hid hi
  have HL := Lib.hid hl
  have hl9 : l.length ≤ 9223372036854775807 := by omega
  have hst := zero_store (w.alloc (.cells Tryz.zeroCells258 258)) (w.heap.size + 1) (by simp)
  clear hv hi hl
  go_enter Tryz.func170, Tryz.ntmps170
  go_wp2_with fail
  clear hst
  rw [zero_bits]
  go_loopg [4] l.length (fun g s4 wr => ∃ (k : Nat) (f : Nat → Bool), k ≤ l.length ∧ l.length - k ≤ g ∧ s4 = .int .i64 k ∧ Hid (bitsL f = bitsL (totN (l.take k)).testBit) ∧ Below w.heap.size w wr ∧ BitB wr w.heap.size (fun _ => false) ∧ BitB wr (w.heap.size + 1) f)
  case atStart => exact ⟨0, fun _ => false, Nat.zero_le _, Nat.le_refl _, rfl, Lib.hid (by rw [List.take_zero]; exact (numV_lt 0).symm), balloc (balloc (Below.refl _ _) _) _, box_old _ _ _, box_new _ _ _⟩
  case round =>
    obtain ⟨k, f, hk, hg, rfl, HF, hb, hz, hq⟩ := hrel
    rename World => wr
    have HB := Lib.hid hb
    have HZ := Lib.hid hz
    have HQ := Lib.hid hq
    clear hb hz hq
    by_cases hlt : k < l.length
    · obtain ⟨b1, o1, rfl, hb1, hc⟩ := (HV.out.below HB.out).at_ hlt
      have z1 : (0 : Int) ≤ (k : Int) := by omega
      have z2 : (k : Int) < (l.length : Int) := by omega
      have HTK := Lib.hid (show totN (l.take (k + 1)) = totN (l.take k) + l[k].toNat by rw [List.take_succ_eq_append_getElem hlt, totN_snoc])
      have hx := HI.out _ (List.getElem_mem hlt)
      have HTL := Lib.hid (show totN (l.take k) ≤ 1000000 * 9223372036854775807 from Nat.le_trans (totN_le (fun n hn => (HI.out n (List.mem_of_mem_take hn)).2)) (Nat.mul_le_mul_right _ (by rw [List.length_take]; have := HL.out; omega)))
      generalize l[k] = x at hc HTK hx
      have d0 := hc 0 _ rfl
      rw [Nat.add_zero, Nat.mul_one] at d0
      have HK := Lib.hid hlt
      clear hc
      by_cases h0 : 0 < x
      · obtain ⟨y, rfl⟩ : ∃ y : Nat, x = y := ⟨x.toNat, by omega⟩
        have hy : y ≤ 9223372036854775807 := by omega
        have q1 : IntKind.u64.wrap (y : Int) = (y : Int) := u64_wrap y (by omega)
        have h0' : (0 : Int) < (y : Int) := h0
        obtain ⟨t, ht⟩ : ∃ t, t = totN (l.take k) := ⟨_, rfl⟩
        rw [← ht] at HTL HTK HF
        have CO := Lib.hid (fun W => show Calls Tryz.prog 211 #[.int .u64 0, .int .u64 y] W fun e w' => e = .returned (.agg (bitsL y.testBit).toArray) ∧ Below W.heap.size W w' from by
          have := numOf_any 0 y (by omega) (by omega) W
          rw [Nat.zero_mul, Nat.zero_add] at this
          exact this)
        have CA := Lib.hid (fun W => show Calls Tryz.prog 210 #[.agg (bitsL f).toArray, .agg (bitsL y.testBit).toArray] W fun e w' => e = .returned (.tuple #[.agg (bitsL (t + y).testBit).toArray, .bool true]) ∧ Below W.heap.size W w' from by
          rw [HF.out]
          exact numAdd_any t y (by have := HTL.out; omega) (by omega) (by have := HTL.out; omega) W)
        have HT2 := Lib.hid (show t + y = totN (l.take (k + 1)) by rw [HTK.out]; simp)
        clear ht hy hx h0
        have r0 : ∀ U, Below wr.heap.size wr U → U.cell? ⟨b1, o1 + k, none⟩ = some (.int .i64 y) := fun U hU => (hU.cell (p := ⟨b1, o1 + k, none⟩) hb1).trans d0
        have HBr := Lib.hid (Below.refl wr.heap.size wr)
        as_aux_lemma =>
        go_upto_region 6 with fail
        refine wp_region_E (S := (fun U : World => Below wr.heap.size wr U)) 11 (by kernel_rfl) ?hS9 (fun hHeld => ?_)
        case hS9 => first | with_reducible exact HBr.out | exact HBr.out.drew | with_reducible exact HB5.out | with_reducible exact HB6.out
        refine wpAnyE_take (i := 0) (v := .agg ((bitsL f)).toArray) rfl (by kernel_rfl) (by kernel_rfl) (by kernel_rfl) (by kernel_rfl) (fun _ _ _ h => h) (yieldsIf_load_mid (by rfl) 258 (.tmp 3) (by rfl) (w.heap.size + 1) (0) (by rfl) ((bitsL f)) _ (fun U hU => (HQ.out.below hU).range) Tryz.underlying258 (by rfl) (num_size _)) (by assumption) ?_
        try simp only [Act.put, List.getElem_toArray, List.getElem_cons_succ, List.getElem_cons_zero, List.setIfInBounds_toArray, List.set_cons_zero, List.set_cons_succ]
        refine wpAnyE_take (i := 1) (v := ?v10) rfl (by kernel_rfl) (by kernel_rfl) (by kernel_rfl) (by kernel_rfl) (fun _ _ _ h => h) (Or.inl ⟨by rfl, ?hy10⟩) (by assumption) ?_
        case hy10 =>
          intro w' hSw
          (try dsimp only at hSw)
          go_simp
          try (with_reducible rfl)
        try simp only [Act.put, List.getElem_toArray, List.getElem_cons_succ, List.getElem_cons_zero, List.setIfInBounds_toArray, List.set_cons_zero, List.set_cons_succ]
        refine wpAnyE_take (i := 2) (v := ?v11) rfl (by kernel_rfl) (by kernel_rfl) (by kernel_rfl) (by kernel_rfl) (fun _ _ _ h => h) (Or.inl ⟨by rfl, ?hy11⟩) (by assumption) ?_
        case hy11 =>
          intro w' hSw
          (try dsimp only at hSw)
          go_simp
          try (with_reducible rfl)
        try simp only [Act.put, List.getElem_toArray, List.getElem_cons_succ, List.getElem_cons_zero, List.setIfInBounds_toArray, List.set_cons_zero, List.set_cons_succ]
        refine wpAnyE_take (i := 3) (v := ?v12) rfl (by kernel_rfl) (by kernel_rfl) (by kernel_rfl) (by kernel_rfl) (fun _ _ _ h => h) (Or.inl ⟨by rfl, ?hy12⟩) (by assumption) ?_
        case hy12 =>
          intro w' hSw
          (try dsimp only at hSw)
          go_simp
          try (with_reducible rfl)
        try simp only [Act.put, List.getElem_toArray, List.getElem_cons_succ, List.getElem_cons_zero, List.setIfInBounds_toArray, List.set_cons_zero, List.set_cons_succ]
        refine wpAnyE_take (i := 4) (v := ?v13) rfl (by kernel_rfl) (by kernel_rfl) (by kernel_rfl) (by kernel_rfl) (fun _ _ _ h => h) (Or.inl ⟨by rfl, ?hy13⟩) (by assumption) ?_
        case hy13 =>
          intro w' hSw
          (try dsimp only at hSw)
          have q9 := r0 w' hSw
          go_simp
          try (with_reducible rfl)
        try simp only [Act.put, List.getElem_toArray, List.getElem_cons_succ, List.getElem_cons_zero, List.setIfInBounds_toArray, List.set_cons_zero, List.set_cons_succ]
        refine wpAnyE_take (i := 5) (v := ?v14) rfl (by kernel_rfl) (by kernel_rfl) (by kernel_rfl) (by kernel_rfl) (fun _ _ _ h => h) (Or.inl ⟨by rfl, ?hy14⟩) (by assumption) ?_
        case hy14 =>
          intro w' hSw
          (try dsimp only at hSw)
          go_simp
          try (with_reducible rfl)
        try simp only [Act.put, List.getElem_toArray, List.getElem_cons_succ, List.getElem_cons_zero, List.setIfInBounds_toArray, List.set_cons_zero, List.set_cons_succ]
        refine wpAnyE_one (i := 6) (by kernel_rfl) rfl (fun K hK => ?_)
        go_simp
        go_at_call 211
        refine calls_named ?_
        intro W5 hW5
        have hb5 : Below wr.heap.size wr W5 := by rw [hW5]; first | exact Below.refl _ _ | exact (Below.refl _ _).drew
        clear hW5
        refine (CO.out W5).mono ?_
        rintro e w5 ⟨rfl, hb6⟩
        have HB5 := Lib.hid (bthen hb5 hb6)
        clear hb5 hb6
        try go_simp
        refine hK.out _ _ ?hS15 (fun hHeld2 => ?_)
        case hS15 =>
          intro _
          first | with_reducible exact HBr.out | exact HBr.out.drew | with_reducible exact HB5.out | with_reducible exact HB6.out
        clear hK K hHeld
        have hHeld := hHeld2 (by kernel_rfl)
        clear hHeld2
        try simp only [Act.put, List.getElem_toArray, List.getElem_cons_succ, List.getElem_cons_zero, List.setIfInBounds_toArray, List.set_cons_zero, List.set_cons_succ]
        refine wpAnyE_one (i := 7) (by kernel_rfl) rfl (fun K hK => ?_)
        go_simp
        go_at_call 210
        refine (CA.out w5).mono ?_
        rintro e w6 ⟨rfl, hb6⟩
        have HB6 := Lib.hid (bthen HB5.out hb6)
        clear hb6
        try go_simp
        refine hK.out _ _ ?hS16 (fun hHeld2 => ?_)
        case hS16 =>
          intro _
          first | with_reducible exact HBr.out | exact HBr.out.drew | with_reducible exact HB5.out | with_reducible exact HB6.out
        clear hK K hHeld
        have hHeld := hHeld2 (by kernel_rfl)
        clear hHeld2
        try simp only [Act.put, List.getElem_toArray, List.getElem_cons_succ, List.getElem_cons_zero, List.setIfInBounds_toArray, List.set_cons_zero, List.set_cons_succ]
        refine wpAnyE_take (i := 8) (v := ?v17) rfl (by kernel_rfl) (by kernel_rfl) (by kernel_rfl) (by kernel_rfl) (fun _ _ _ h => h) (Or.inl ⟨by rfl, ?hy17⟩) (by assumption) ?_
        case hy17 =>
          intro w' hSw
          (try dsimp only at hSw)
          go_simp
          try (with_reducible rfl)
        try simp only [Act.put, List.getElem_toArray, List.getElem_cons_succ, List.getElem_cons_zero, List.setIfInBounds_toArray, List.set_cons_zero, List.set_cons_succ]
        refine wpAnyE_take (i := 9) (v := ?v18) rfl (by kernel_rfl) (by kernel_rfl) (by kernel_rfl) (by kernel_rfl) (fun _ _ _ h => h) (Or.inl ⟨by rfl, ?hy18⟩) (by assumption) ?_
        case hy18 =>
          intro w' hSw
          (try dsimp only at hSw)
          go_simp
          try (with_reducible rfl)
        try simp only [Act.put, List.getElem_toArray, List.getElem_cons_succ, List.getElem_cons_zero, List.setIfInBounds_toArray, List.set_cons_zero, List.set_cons_succ]
        refine wpAnyE_takeP (i := 10) (v := ?v19) rfl (by kernel_rfl) (by kernel_rfl) (by kernel_rfl) (by kernel_rfl) (fun _ _ _ h => h) (Or.inl ⟨by rfl, ?hy19⟩) (by assumption) ?_
        case hy19 =>
          intro w' hSw
          clear hSw
          go_simp
          try (with_reducible rfl)
        try simp only [Act.put, List.getElem_toArray, List.getElem_cons_succ, List.getElem_cons_zero, List.setIfInBounds_toArray, List.set_cons_zero, List.set_cons_succ]
        refine wpAnyE_one (i := 11) (by kernel_rfl) rfl (fun K hK => ?_)
        refine step_wanted (by rfl) ?_
        refine wp_store_mid 258 (.tmp 3) (.tmp 26) rfl (w.heap.size + 1) 0 (bitsL (t + y).testBit).toArray (by rfl) (by rfl) ((HQ.out.below HB6.out).there _) (num_sizeA _) (bits_one _) ?_
        refine hK.out _ _ ?hS20 (fun hHeld2 => ?_)
        case hS20 => exact fun h => nomatch (show (true : Bool) = false from h)
        clear hK K hHeld hHeld2
        try simp only [Act.put, List.getElem_toArray, List.getElem_cons_succ, List.getElem_cons_zero, List.setIfInBounds_toArray, List.set_cons_zero, List.set_cons_succ]
        refine wpAnyE_done (by kernel_rfl) ?_ _
        obtain ⟨s1, s2, s3⟩ := (HQ.out.below HB6.out).store (t + y).testBit
        obtain ⟨W9, hW9⟩ : ∃ W9, W9 = w6.setCells (w.heap.size + 1) 0 (bitsL (t + y).testBit) := ⟨_, rfl⟩
        rw [← hW9] at s1 s2 s3
        go_wp2_with fail
        go_roundg (l.length - (k + 1))
        case measure => omega
        case rel => exact ⟨k + 1, (t + y).testBit, HK.out, Nat.le_refl _, by go_num, Lib.hid (by rw [HT2.out]), by rw [← hW9]; exact (bthen HB.out HB6.out).trans (s3 _ (by omega)), by rw [← hW9]; exact (s2 _ (by omega)).trans (HZ.out.below HB6.out), by rw [← hW9]; exact s1⟩
      · obtain rfl : x = 0 := by omega
        have e3 : totN (l.take (k + 1)) = totN (l.take k) := by rw [HTK.out]; simp
        have HF2 := Lib.hid (show bitsL f = bitsL (totN (l.take (k + 1))).testBit by rw [e3]; exact HF.out)
        clear e3 hx h0
        as_aux_lemma =>
        go_wp2_with fail
        go_roundg (l.length - (k + 1))
        case measure => omega
        case rel => exact ⟨k + 1, f, HK.out, Nat.le_refl _, by go_num, HF2, HB.out, HZ.out, HQ.out⟩
    · obtain rfl : k = l.length := by omega
      rw [List.take_length] at HF
      go_wp2_with (first
        | (refine wpList_load_list rfl 258 (.tmp 3) rfl (w.heap.size + 1) 0 (bitsL f) HQ.out.range (by rfl) _ Tryz.underlying258 (by rfl) (num_size f) ?_)
        | (refine wpList_store_mid rfl 258 (.tmp 2) (.tmp 28) rfl (w.heap.size) 0 (bitsL f).toArray (by rfl) (by rfl) (HZ.out.there f) (num_sizeA f) (bits_one f) ?_))
      obtain ⟨hs1, _, hs3⟩ := HZ.out.store f
      refine bodyPost_ret (v := .agg (bitsL f).toArray) (results_cell_row Tryz.results170 _ _ _ _ _ _ _ (by rfl) hs1 Tryz.underlying258 rfl (num_sizeA _)) rfl ⟨?_, HB.out.trans (hs3 _ (Nat.le_refl _))⟩
      rw [HF.out]
      rfl
end

section
set_option linter.unusedSimpArgs false
set_option linter.unusedVariables false
open Go.RowKit Go.Lib Go.Sort

def findI (l : List It) (k : Ky) : Option It := l.find? fun x => decide (x.key = k)
theorem findI_snoc_ne {l : List It} {x : It} {k : Ky} (h : findI l k = none) (hx : x.key ≠ k) : findI (l ++ [x]) k = none := by
  unfold findI at h ⊢
  rw [List.find?_append, h]
  simp [hx]
theorem findI_append_none {l m : List It} {k : Ky} (h : findI l k = none) : findI (l ++ m) k = findI m k := by
  unfold findI at h ⊢
  rw [List.find?_append, h]
  rfl
theorem findI_at {l : List It} {k : Ky} {j : Nat} (hj : j < l.length) (h : findI (l.take j) k = none) (hk : l[j].key = k) : findI l k = some l[j] := by
  have e : findI l k = findI (l.take j ++ l[j] :: l.drop (j + 1)) k := by congr 1; simp
  rw [e, findI_append_none h]
  unfold findI
  rw [List.find?_cons_of_pos (by simpa using hk)]
/-- The key's and the result's boxes. -/
def FiBox (B : Nat) (k : Ky) (U : World) : Prop := U.heap[B]? = some (.cells #[.int .u64 k.1, .int .u64 k.2] 40 (0, 0)) ∧ U.heap[B + 1]? = some (.cells #[.slice none 0 0, .slice none 0 0, .int .i64 0, .int .i64 0, .int .i64 0, .int .i64 0, .int .i64 0, .int .i64 0, .bool false, .int .i64 0] 68 (0, 0))

set_option maxRecDepth 100000 in
set_option maxHeartbeats 4000000 in
theorem refFirst_any (v : Value) (ps : List PartI) (k : Ky) (x : It) (w : World) (hv : RowIn 1 partIC w v ps) (hi : ∀ p ∈ ps, RowIn 12 itC w (.slice p.1 p.2.2.length p.2.1) p.2.2) (hl : ps.length ≤ 1000) (hl2 : ∀ p ∈ ps, p.2.2.length ≤ 1000000) (hf : findI (ps.flatMap fun p => p.2.2) k = some x) :
    Calls Tryz.prog 55 #[v, .agg #[.int .u64 k.1, .int .u64 k.2]] w fun e w' => e = .returned (.tuple #[.agg (loadC x).toArray, .bool true]) ∧ Below w.heap.size w w' := by
  obtain ⟨A, c, rfl⟩ := hv.form
  have HV := Lib.hid hv
  have HI := Lib.hid hi
  have HF := Lib.hid hf
  have HL2 := Lib.hid hl2
  have hl9 : ps.length ≤ 9223372036854775807 := by omega
  clear hv hi hf hl2
  go_enter Tryz.func55, Tryz.ntmps55
  go_wp2_with fail
  go_loopg [6] ps.length (fun g s6 wr => ∃ i : Nat, i ≤ ps.length ∧ ps.length - i ≤ g ∧ s6 = .int .i64 i ∧ Hid (findI ((ps.take i).flatMap fun p => p.2.2) k = none) ∧ Below w.heap.size w wr ∧ FiBox w.heap.size k wr)
  case atStart => exact ⟨0, Nat.zero_le _, Nat.le_refl _, rfl, Lib.hid rfl, balloc (balloc (Below.refl _ _) _) _, box_old _ _ _, box_new _ _ _⟩
  case round =>
    obtain ⟨i, hi, hg, rfl, HN, hb, hbx⟩ := hrel
    rename World => wr
    have HB := Lib.hid hb
    have HBX := Lib.hid hbx
    clear hb hbx
    by_cases hlt : i < ps.length
    · obtain ⟨b1, o1, rfl, hb1, hc⟩ := (HV.out.below HB.out).at_ hlt
      have hri := HI.out _ (List.getElem_mem hlt)
      have hll := HL2.out _ (List.getElem_mem hlt)
      have HTK := Lib.hid (show (ps.take (i + 1)).flatMap (fun p => p.2.2) = ((ps.take i).flatMap fun p => p.2.2) ++ ps[i].2.2 by rw [List.take_succ_eq_append_getElem hlt, List.flatMap_append]; simp)
      have HAL := Lib.hid (show ∃ r, (ps.flatMap fun p => p.2.2) = ((ps.take i).flatMap fun p => p.2.2) ++ (ps[i].2.2 ++ r) from ⟨(ps.drop (i + 1)).flatMap fun p => p.2.2, by
        conv => lhs; rw [show ps = ps.take i ++ ps[i] :: ps.drop (i + 1) by simp]
        rw [List.flatMap_append, List.flatMap_cons]⟩)
      generalize ps[i] = p at hc hri hll HTK HAL
      obtain ⟨pA, pc, m⟩ := p
      have d0 := hc 0 _ rfl
      rw [Nat.add_zero, Nat.mul_one] at d0
      have z1 : (0 : Int) ≤ (i : Int) := by omega
      have z2 : (i : Int) < (ps.length : Int) := by omega
      simp only at hri hll HTK HAL d0
      have hml9 : m.length ≤ 9223372036854775807 := by omega
      have HRI := Lib.hid hri
      have HK := Lib.hid hlt
      clear hc hri hll hlt
      go_wp2_with fail
      go_loopg [7] m.length (fun g s7 wt => ∃ j : Nat, j ≤ m.length ∧ m.length - j ≤ g ∧ s7 = .int .i64 j ∧ Hid (findI (m.take j) k = none) ∧ Below wr.heap.size wr wt)
      case atStart => exact ⟨0, Nat.zero_le _, Nat.le_refl _, rfl, Lib.hid rfl, Below.refl _ _⟩
      case round =>
        rename World => wt
        obtain ⟨j, hj, hgj, rfl, HNJ, hbt⟩ := hrel
        have HBT := Lib.hid hbt
        have e0 := (hbt.cell (p := ⟨b1, o1 + i, none⟩) hb1).trans d0
        obtain ⟨k1, k2, k3⟩ := box_cells hbt HBX.out.1
        obtain ⟨r1, r2, r3⟩ := box_cells hbt HBX.out.2
        have HR := Lib.hid (HBX.out.2)
        clear hbt
        by_cases hlj : j < m.length
        · obtain ⟨b2, o2, rfl, hb2, hc2⟩ := (HRI.out.below (bthen HB.out HBT.out)).at_ hlj
          have y1 : (0 : Int) ≤ (j : Int) := by omega
          have y2 : (j : Int) < (m.length : Int) := by omega
          have HEQ := Lib.hid (fun h => findI_at hlj HNJ.out h)
          have HNE := Lib.hid (fun h : m[j].key ≠ k => show findI (m.take (j + 1)) k = none by rw [List.take_succ_eq_append_getElem hlj]; exact findI_snoc_ne HNJ.out h)
          generalize m[j] = y at hc2 HEQ HNE
          have c0 : wt.cell? ⟨b2, o2 + j * 12, none⟩ = some (.int .u64 y.key.1) := hc2 0 _ rfl
          have c1 : wt.cell? ⟨b2, o2 + j * 12 + 1, none⟩ = some (.int .u64 y.key.2) := hc2 1 _ rfl
          have HCL := Lib.hid (show ∀ q v, (loadC y)[q]? = some v → wt.drew.cell? ⟨b2, o2 + j * 12 + 2 + q, none⟩ = some v from fun q v hq => by
            have := hc2 (2 + q) v (by rw [Nat.add_comm]; exact hq)
            rw [← Nat.add_assoc] at this
            exact this)
          have HLL := Lib.hid (show (loadC y).length = 10 from rfl)
          have HONE := Lib.hid (show (loadC y).toArray.all (·.oneCell') = true from all_oneCell_toArray (fun v hv => by
            simp only [loadC, List.mem_cons, List.not_mem_nil, or_false] at hv
            rcases hv with rfl | rfl | rfl | rfl | rfl | rfl | rfl | rfl | rfl | rfl <;> rfl))
          obtain ⟨cs, hcs⟩ : ∃ cs, cs = loadC y := ⟨_, rfl⟩
          rw [← hcs] at HCL HLL HONE
          have HCS := Lib.hid hcs
          clear hcs
          obtain ⟨key, hkey⟩ : ∃ key, key = y.key := ⟨_, rfl⟩
          rw [← hkey] at c0 c1 HEQ HNE
          clear hkey
          have HJ := Lib.hid hlj
          clear hc2
          have HBL := Lib.hid (And.intro (Nat.lt_of_lt_of_le hb1 HBT.out.size) hb2)
          have HWr := Lib.hid (Below.refl wt.heap.size wt)
          have HKB := Lib.hid ((HBT.out.block _ (Array.getElem?_eq_some_iff.1 HBX.out.1).1).trans HBX.out.1)
          have HRB := Lib.hid ((HBT.out.block _ (Array.getElem?_eq_some_iff.1 HBX.out.2).1).trans HBX.out.2)
          by_cases hk : key = k
          · have hx := HEQ.out hk
            obtain ⟨r, hr⟩ := HAL.out
            have hfx := HF.out
            rw [hr, findI_append_none HN.out] at hfx
            have hfy : findI (m ++ r) k = findI m k := by unfold findI at hx ⊢; rw [List.find?_append, hx]; rfl
            rw [hfy, hx] at hfx
            have HX := Lib.hid (Option.some.inj hfx)
            subst hk
            clear hx hr hfx hfy HEQ HNE
            have HTH := Lib.hid (show wt.drew.there (w.heap.size + 1) 0 cs.toArray.size from fun q hq => by
              rw [List.size_toArray, HLL.out] at hq
              rw [Nat.zero_add]
              refine ⟨?_, r2 q⟩
              rw [show wt.drew.cell? ⟨w.heap.size + 1, q, none⟩ = _ from r1 q]
              have : q < 10 := hq
              simp; omega)
            as_aux_lemma =>
              go_upto_region 7 with fail
              refine wp_region_held_drew (S := (fun U : World => Below wt.heap.size wt U)) (by kernel_rfl) ?hS1 (fun hHeld => ?_)
              case hS1 => first | with_reducible exact HWr.out | exact HWr.out.drew
              refine wpAnyH_take (i := 0) (v := ?v2) rfl (by kernel_rfl) (by kernel_rfl) (by kernel_rfl) (fun _ _ _ h => h) (Or.inl ⟨by rfl, ?hy2⟩) (by assumption) ?_
              case hy2 =>
                intro w' hSw
                (try dsimp only at hSw)
                go_simp
                try (with_reducible rfl)
              try simp only [Act.put, List.getElem_toArray, List.getElem_cons_succ, List.getElem_cons_zero, List.setIfInBounds_toArray, List.set_cons_zero, List.set_cons_succ]
              refine wpAnyH_take (i := 1) (v := ?v3) rfl (by kernel_rfl) (by kernel_rfl) (by kernel_rfl) (fun _ _ _ h => h) (Or.inl ⟨by rfl, ?hy3⟩) (by assumption) ?_
              case hy3 =>
                intro w' hSw
                (try dsimp only at hSw)
                go_simp
                try (with_reducible rfl)
              try simp only [Act.put, List.getElem_toArray, List.getElem_cons_succ, List.getElem_cons_zero, List.setIfInBounds_toArray, List.set_cons_zero, List.set_cons_succ]
              refine wpAnyH_take (i := 2) (v := ?v4) rfl (by kernel_rfl) (by kernel_rfl) (by kernel_rfl) (fun _ _ _ h => h) (Or.inl ⟨by rfl, ?hy4⟩) (by assumption) ?_
              case hy4 =>
                intro w' hSw
                (try dsimp only at hSw)
                go_simp
                try (with_reducible rfl)
              try simp only [Act.put, List.getElem_toArray, List.getElem_cons_succ, List.getElem_cons_zero, List.setIfInBounds_toArray, List.set_cons_zero, List.set_cons_succ]
              refine wpAnyH_take (i := 3) (v := ?v5) rfl (by kernel_rfl) (by kernel_rfl) (by kernel_rfl) (fun _ _ _ h => h) (Or.inl ⟨by rfl, ?hy5⟩) (by assumption) ?_
              case hy5 =>
                intro w' hSw
                (try dsimp only at hSw)
                have q1 := (hSw.cell (p := ⟨b1, _, none⟩) HBL.out.1).trans e0
                go_simp
                try (with_reducible rfl)
              try simp only [Act.put, List.getElem_toArray, List.getElem_cons_succ, List.getElem_cons_zero, List.setIfInBounds_toArray, List.set_cons_zero, List.set_cons_succ]
              refine wpAnyH_take (i := 4) (v := ?v6) rfl (by kernel_rfl) (by kernel_rfl) (by kernel_rfl) (fun _ _ _ h => h) (Or.inl ⟨by rfl, ?hy6⟩) (by assumption) ?_
              case hy6 =>
                intro w' hSw
                (try dsimp only at hSw)
                go_simp
                try (with_reducible rfl)
              try simp only [Act.put, List.getElem_toArray, List.getElem_cons_succ, List.getElem_cons_zero, List.setIfInBounds_toArray, List.set_cons_zero, List.set_cons_succ]
              refine wpAnyH_take (i := 5) (v := ?v7) rfl (by kernel_rfl) (by kernel_rfl) (by kernel_rfl) (fun _ _ _ h => h) (Or.inl ⟨by rfl, ?hy7⟩) (by assumption) ?_
              case hy7 =>
                intro w' hSw
                (try dsimp only at hSw)
                go_simp
                try (with_reducible rfl)
              try simp only [Act.put, List.getElem_toArray, List.getElem_cons_succ, List.getElem_cons_zero, List.setIfInBounds_toArray, List.set_cons_zero, List.set_cons_succ]
              refine wpAnyH_take (i := 6) (v := ?v8) rfl (by kernel_rfl) (by kernel_rfl) (by kernel_rfl) (fun _ _ _ h => h) (Or.inl ⟨by rfl, ?hy8⟩) (by assumption) ?_
              case hy8 =>
                intro w' hSw
                (try dsimp only at hSw)
                go_simp
                try (with_reducible rfl)
              try simp only [Act.put, List.getElem_toArray, List.getElem_cons_succ, List.getElem_cons_zero, List.setIfInBounds_toArray, List.set_cons_zero, List.set_cons_succ]
              refine wpAnyH_take (i := 7) (v := ?v9) rfl (by kernel_rfl) (by kernel_rfl) (by kernel_rfl) (fun _ _ _ h => h) (Or.inl ⟨by rfl, ?hy9⟩) (by assumption) ?_
              case hy9 =>
                intro w' hSw
                (try dsimp only at hSw)
                have q1 := (hSw.cell (p := ⟨b2, _, none⟩) HBL.out.2).trans c0
                have q2 := (hSw.cell (p := ⟨b2, _, none⟩) HBL.out.2).trans c1
                go_simp
                try (with_reducible rfl)
              try simp only [Act.put, List.getElem_toArray, List.getElem_cons_succ, List.getElem_cons_zero, List.setIfInBounds_toArray, List.set_cons_zero, List.set_cons_succ]
              refine wpAnyH_take (i := 8) (v := ?v10) rfl (by kernel_rfl) (by kernel_rfl) (by kernel_rfl) (fun _ _ _ h => h) (Or.inl ⟨by rfl, ?hy10⟩) (by assumption) ?_
              case hy10 =>
                intro w' hSw
                (try dsimp only at hSw)
                have q1 := (box_cells hSw HKB.out).1
                go_simp
                try (with_reducible rfl)
              try simp only [Act.put, List.getElem_toArray, List.getElem_cons_succ, List.getElem_cons_zero, List.setIfInBounds_toArray, List.set_cons_zero, List.set_cons_succ]
              refine wpAnyH_take (i := 9) (v := ?v11) rfl (by kernel_rfl) (by kernel_rfl) (by kernel_rfl) (fun _ _ _ h => h) (Or.inl ⟨by rfl, ?hy11⟩) (by assumption) ?_
              case hy11 =>
                intro w' hSw
                (try dsimp only at hSw)
                go_simp
                try (with_reducible rfl)
              try simp only [Act.put, List.getElem_toArray, List.getElem_cons_succ, List.getElem_cons_zero, List.setIfInBounds_toArray, List.set_cons_zero, List.set_cons_succ]
              refine wpAnyH_done (by kernel_rfl) ?_ _
              go_wp2_with (first
                | (refine wpList_load_list rfl 68 (.tmp 39) rfl b2 (o2 + j * 12 + 2) cs HCL.out (by rfl) _ Tryz.underlying68 (by rfl) (by rw [HLL.out]; kernel_rfl) ?_)
                | (refine wpList_store_mid rfl 68 (.tmp 4) (.tmp 40) rfl (w.heap.size + 1) 0 cs.toArray (by rfl) (by rfl) HTH.out (by rw [List.size_toArray, HLL.out]; kernel_rfl) HONE.out ?_
                   refine list_named ?_
                   intro W hW
                   have hW2 : W = wt.drew.setCells (w.heap.size + 1) 0 cs := hW
                   have hbx : wt.drew.heap[w.heap.size + 1]? = some (.cells #[.slice none 0 0, .slice none 0 0, .int .i64 0, .int .i64 0, .int .i64 0, .int .i64 0, .int .i64 0, .int .i64 0, .bool false, .int .i64 0] 68 (0, 0)) := HRB.out
                   obtain ⟨s1, s2, s3, s4⟩ := stor_at hbx cs (by rw [HLL.out]; rfl) W (hW2.trans (setCells_stor cs wt.drew (w.heap.size + 1) 0))
                   have HS1 := Lib.hid s1
                   have HBW := Lib.hid (((bthen HB.out HBT.out).drew).trans (s4 _ (by omega)))
                   clear hW hW2 hbx s1 s2 s3 s4))
              have hld := run_loadVar_row (P := Tryz.prog) W (w.heap.size + 1) 68 68 _ (0, 0) _ HS1.out Tryz.underlying68 rfl (by rw [List.size_toArray, HLL.out]; kernel_rfl)
              exact bodyPost_ret (v := .tuple #[.agg cs.toArray, .bool true]) (results_row_tmp Tryz.results55 (by rfl) hld) rfl ⟨by rw [HCS.out, HX.out], HBW.out⟩
          · have HNX := Lib.hid (HNE.out hk)
            clear HEQ HNE
            by_cases h1 : key.1 = k.1
            · have hh : ((key.2 : Int) == (k.2 : Int)) = false := by
                have : key.2 ≠ k.2 := fun h2 => hk (Prod.ext h1 h2)
                simp; omega
              rw [h1] at c0
              clear hk h1
              as_aux_lemma =>
                go_upto_region 7 with fail
                refine wp_region_held_drew (S := (fun U : World => Below wt.heap.size wt U)) (by kernel_rfl) ?hS12 (fun hHeld => ?_)
                case hS12 => first | with_reducible exact HWr.out | exact HWr.out.drew
                refine wpAnyH_take (i := 0) (v := ?v13) rfl (by kernel_rfl) (by kernel_rfl) (by kernel_rfl) (fun _ _ _ h => h) (Or.inl ⟨by rfl, ?hy13⟩) (by assumption) ?_
                case hy13 =>
                  intro w' hSw
                  (try dsimp only at hSw)
                  go_simp
                  try (with_reducible rfl)
                try simp only [Act.put, List.getElem_toArray, List.getElem_cons_succ, List.getElem_cons_zero, List.setIfInBounds_toArray, List.set_cons_zero, List.set_cons_succ]
                refine wpAnyH_take (i := 1) (v := ?v14) rfl (by kernel_rfl) (by kernel_rfl) (by kernel_rfl) (fun _ _ _ h => h) (Or.inl ⟨by rfl, ?hy14⟩) (by assumption) ?_
                case hy14 =>
                  intro w' hSw
                  (try dsimp only at hSw)
                  go_simp
                  try (with_reducible rfl)
                try simp only [Act.put, List.getElem_toArray, List.getElem_cons_succ, List.getElem_cons_zero, List.setIfInBounds_toArray, List.set_cons_zero, List.set_cons_succ]
                refine wpAnyH_take (i := 2) (v := ?v15) rfl (by kernel_rfl) (by kernel_rfl) (by kernel_rfl) (fun _ _ _ h => h) (Or.inl ⟨by rfl, ?hy15⟩) (by assumption) ?_
                case hy15 =>
                  intro w' hSw
                  (try dsimp only at hSw)
                  go_simp
                  try (with_reducible rfl)
                try simp only [Act.put, List.getElem_toArray, List.getElem_cons_succ, List.getElem_cons_zero, List.setIfInBounds_toArray, List.set_cons_zero, List.set_cons_succ]
                refine wpAnyH_take (i := 3) (v := ?v16) rfl (by kernel_rfl) (by kernel_rfl) (by kernel_rfl) (fun _ _ _ h => h) (Or.inl ⟨by rfl, ?hy16⟩) (by assumption) ?_
                case hy16 =>
                  intro w' hSw
                  (try dsimp only at hSw)
                  have q1 := (hSw.cell (p := ⟨b1, _, none⟩) HBL.out.1).trans e0
                  go_simp
                  try (with_reducible rfl)
                try simp only [Act.put, List.getElem_toArray, List.getElem_cons_succ, List.getElem_cons_zero, List.setIfInBounds_toArray, List.set_cons_zero, List.set_cons_succ]
                refine wpAnyH_take (i := 4) (v := ?v17) rfl (by kernel_rfl) (by kernel_rfl) (by kernel_rfl) (fun _ _ _ h => h) (Or.inl ⟨by rfl, ?hy17⟩) (by assumption) ?_
                case hy17 =>
                  intro w' hSw
                  (try dsimp only at hSw)
                  go_simp
                  try (with_reducible rfl)
                try simp only [Act.put, List.getElem_toArray, List.getElem_cons_succ, List.getElem_cons_zero, List.setIfInBounds_toArray, List.set_cons_zero, List.set_cons_succ]
                refine wpAnyH_take (i := 5) (v := ?v18) rfl (by kernel_rfl) (by kernel_rfl) (by kernel_rfl) (fun _ _ _ h => h) (Or.inl ⟨by rfl, ?hy18⟩) (by assumption) ?_
                case hy18 =>
                  intro w' hSw
                  (try dsimp only at hSw)
                  go_simp
                  try (with_reducible rfl)
                try simp only [Act.put, List.getElem_toArray, List.getElem_cons_succ, List.getElem_cons_zero, List.setIfInBounds_toArray, List.set_cons_zero, List.set_cons_succ]
                refine wpAnyH_take (i := 6) (v := ?v19) rfl (by kernel_rfl) (by kernel_rfl) (by kernel_rfl) (fun _ _ _ h => h) (Or.inl ⟨by rfl, ?hy19⟩) (by assumption) ?_
                case hy19 =>
                  intro w' hSw
                  (try dsimp only at hSw)
                  go_simp
                  try (with_reducible rfl)
                try simp only [Act.put, List.getElem_toArray, List.getElem_cons_succ, List.getElem_cons_zero, List.setIfInBounds_toArray, List.set_cons_zero, List.set_cons_succ]
                refine wpAnyH_take (i := 7) (v := ?v20) rfl (by kernel_rfl) (by kernel_rfl) (by kernel_rfl) (fun _ _ _ h => h) (Or.inl ⟨by rfl, ?hy20⟩) (by assumption) ?_
                case hy20 =>
                  intro w' hSw
                  (try dsimp only at hSw)
                  have q1 := (hSw.cell (p := ⟨b2, _, none⟩) HBL.out.2).trans c0
                  have q2 := (hSw.cell (p := ⟨b2, _, none⟩) HBL.out.2).trans c1
                  go_simp
                  try (with_reducible rfl)
                try simp only [Act.put, List.getElem_toArray, List.getElem_cons_succ, List.getElem_cons_zero, List.setIfInBounds_toArray, List.set_cons_zero, List.set_cons_succ]
                refine wpAnyH_take (i := 8) (v := ?v21) rfl (by kernel_rfl) (by kernel_rfl) (by kernel_rfl) (fun _ _ _ h => h) (Or.inl ⟨by rfl, ?hy21⟩) (by assumption) ?_
                case hy21 =>
                  intro w' hSw
                  (try dsimp only at hSw)
                  have q1 := (box_cells hSw HKB.out).1
                  go_simp
                  try (with_reducible rfl)
                try simp only [Act.put, List.getElem_toArray, List.getElem_cons_succ, List.getElem_cons_zero, List.setIfInBounds_toArray, List.set_cons_zero, List.set_cons_succ]
                refine wpAnyH_take (i := 9) (v := ?v22) rfl (by kernel_rfl) (by kernel_rfl) (by kernel_rfl) (fun _ _ _ h => h) (Or.inl ⟨by rfl, ?hy22⟩) (by assumption) ?_
                case hy22 =>
                  intro w' hSw
                  (try dsimp only at hSw)
                  go_simp
                  try (with_reducible rfl)
                try simp only [Act.put, List.getElem_toArray, List.getElem_cons_succ, List.getElem_cons_zero, List.setIfInBounds_toArray, List.set_cons_zero, List.set_cons_succ]
                refine wpAnyH_done (by kernel_rfl) ?_ _
                go_wp2_with fail
                go_roundg (m.length - (j + 1))
                case measure => omega
                case rel => exact ⟨j + 1, HJ.out, Nat.le_refl _, by go_num, HNX, HBT.out.drew⟩
            · have hh : ((key.1 : Int) == (k.1 : Int)) = false := by simp; omega
              clear hk h1
              as_aux_lemma =>
                go_upto_region 7 with fail
                refine wp_region_held_drew (S := (fun U : World => Below wt.heap.size wt U)) (by kernel_rfl) ?hS23 (fun hHeld => ?_)
                case hS23 => first | with_reducible exact HWr.out | exact HWr.out.drew
                refine wpAnyH_take (i := 0) (v := ?v24) rfl (by kernel_rfl) (by kernel_rfl) (by kernel_rfl) (fun _ _ _ h => h) (Or.inl ⟨by rfl, ?hy24⟩) (by assumption) ?_
                case hy24 =>
                  intro w' hSw
                  (try dsimp only at hSw)
                  go_simp
                  try (with_reducible rfl)
                try simp only [Act.put, List.getElem_toArray, List.getElem_cons_succ, List.getElem_cons_zero, List.setIfInBounds_toArray, List.set_cons_zero, List.set_cons_succ]
                refine wpAnyH_take (i := 1) (v := ?v25) rfl (by kernel_rfl) (by kernel_rfl) (by kernel_rfl) (fun _ _ _ h => h) (Or.inl ⟨by rfl, ?hy25⟩) (by assumption) ?_
                case hy25 =>
                  intro w' hSw
                  (try dsimp only at hSw)
                  go_simp
                  try (with_reducible rfl)
                try simp only [Act.put, List.getElem_toArray, List.getElem_cons_succ, List.getElem_cons_zero, List.setIfInBounds_toArray, List.set_cons_zero, List.set_cons_succ]
                refine wpAnyH_take (i := 2) (v := ?v26) rfl (by kernel_rfl) (by kernel_rfl) (by kernel_rfl) (fun _ _ _ h => h) (Or.inl ⟨by rfl, ?hy26⟩) (by assumption) ?_
                case hy26 =>
                  intro w' hSw
                  (try dsimp only at hSw)
                  go_simp
                  try (with_reducible rfl)
                try simp only [Act.put, List.getElem_toArray, List.getElem_cons_succ, List.getElem_cons_zero, List.setIfInBounds_toArray, List.set_cons_zero, List.set_cons_succ]
                refine wpAnyH_take (i := 3) (v := ?v27) rfl (by kernel_rfl) (by kernel_rfl) (by kernel_rfl) (fun _ _ _ h => h) (Or.inl ⟨by rfl, ?hy27⟩) (by assumption) ?_
                case hy27 =>
                  intro w' hSw
                  (try dsimp only at hSw)
                  have q1 := (hSw.cell (p := ⟨b1, _, none⟩) HBL.out.1).trans e0
                  go_simp
                  try (with_reducible rfl)
                try simp only [Act.put, List.getElem_toArray, List.getElem_cons_succ, List.getElem_cons_zero, List.setIfInBounds_toArray, List.set_cons_zero, List.set_cons_succ]
                refine wpAnyH_take (i := 4) (v := ?v28) rfl (by kernel_rfl) (by kernel_rfl) (by kernel_rfl) (fun _ _ _ h => h) (Or.inl ⟨by rfl, ?hy28⟩) (by assumption) ?_
                case hy28 =>
                  intro w' hSw
                  (try dsimp only at hSw)
                  go_simp
                  try (with_reducible rfl)
                try simp only [Act.put, List.getElem_toArray, List.getElem_cons_succ, List.getElem_cons_zero, List.setIfInBounds_toArray, List.set_cons_zero, List.set_cons_succ]
                refine wpAnyH_take (i := 5) (v := ?v29) rfl (by kernel_rfl) (by kernel_rfl) (by kernel_rfl) (fun _ _ _ h => h) (Or.inl ⟨by rfl, ?hy29⟩) (by assumption) ?_
                case hy29 =>
                  intro w' hSw
                  (try dsimp only at hSw)
                  go_simp
                  try (with_reducible rfl)
                try simp only [Act.put, List.getElem_toArray, List.getElem_cons_succ, List.getElem_cons_zero, List.setIfInBounds_toArray, List.set_cons_zero, List.set_cons_succ]
                refine wpAnyH_take (i := 6) (v := ?v30) rfl (by kernel_rfl) (by kernel_rfl) (by kernel_rfl) (fun _ _ _ h => h) (Or.inl ⟨by rfl, ?hy30⟩) (by assumption) ?_
                case hy30 =>
                  intro w' hSw
                  (try dsimp only at hSw)
                  go_simp
                  try (with_reducible rfl)
                try simp only [Act.put, List.getElem_toArray, List.getElem_cons_succ, List.getElem_cons_zero, List.setIfInBounds_toArray, List.set_cons_zero, List.set_cons_succ]
                refine wpAnyH_take (i := 7) (v := ?v31) rfl (by kernel_rfl) (by kernel_rfl) (by kernel_rfl) (fun _ _ _ h => h) (Or.inl ⟨by rfl, ?hy31⟩) (by assumption) ?_
                case hy31 =>
                  intro w' hSw
                  (try dsimp only at hSw)
                  have q1 := (hSw.cell (p := ⟨b2, _, none⟩) HBL.out.2).trans c0
                  have q2 := (hSw.cell (p := ⟨b2, _, none⟩) HBL.out.2).trans c1
                  go_simp
                  try (with_reducible rfl)
                try simp only [Act.put, List.getElem_toArray, List.getElem_cons_succ, List.getElem_cons_zero, List.setIfInBounds_toArray, List.set_cons_zero, List.set_cons_succ]
                refine wpAnyH_take (i := 8) (v := ?v32) rfl (by kernel_rfl) (by kernel_rfl) (by kernel_rfl) (fun _ _ _ h => h) (Or.inl ⟨by rfl, ?hy32⟩) (by assumption) ?_
                case hy32 =>
                  intro w' hSw
                  (try dsimp only at hSw)
                  have q1 := (box_cells hSw HKB.out).1
                  go_simp
                  try (with_reducible rfl)
                try simp only [Act.put, List.getElem_toArray, List.getElem_cons_succ, List.getElem_cons_zero, List.setIfInBounds_toArray, List.set_cons_zero, List.set_cons_succ]
                refine wpAnyH_take (i := 9) (v := ?v33) rfl (by kernel_rfl) (by kernel_rfl) (by kernel_rfl) (fun _ _ _ h => h) (Or.inl ⟨by rfl, ?hy33⟩) (by assumption) ?_
                case hy33 =>
                  intro w' hSw
                  (try dsimp only at hSw)
                  go_simp
                  try (with_reducible rfl)
                try simp only [Act.put, List.getElem_toArray, List.getElem_cons_succ, List.getElem_cons_zero, List.setIfInBounds_toArray, List.set_cons_zero, List.set_cons_succ]
                refine wpAnyH_done (by kernel_rfl) ?_ _
                go_wp2_with fail
                go_roundg (m.length - (j + 1))
                case measure => omega
                case rel => exact ⟨j + 1, HJ.out, Nat.le_refl _, by go_num, HNX, HBT.out.drew⟩
        · obtain rfl : j = m.length := by omega
          have hnj := HNJ.out
          rw [List.take_length] at hnj
          have HNX := Lib.hid (show findI ((ps.take (i + 1)).flatMap fun p => p.2.2) k = none by rw [HTK.out, findI_append_none HN.out]; exact hnj)
          clear hnj
          go_wp2_with fail
          go_roundg (ps.length - (i + 1))
          case measure => omega
          case rel => exact ⟨i + 1, HK.out, Nat.le_refl _, by go_num, HNX, bthen HB.out HBT.out, (HBT.out.block _ (Array.getElem?_eq_some_iff.1 HBX.out.1).1).trans HBX.out.1, (HBT.out.block _ (Array.getElem?_eq_some_iff.1 HBX.out.2).1).trans HBX.out.2⟩
    · exfalso
      obtain rfl : i = ps.length := by omega
      have h1 := HN.out
      rw [List.take_length, HF.out] at h1
      cases h1
end

section
set_option linter.unusedSimpArgs false
set_option linter.unusedVariables false
open Go.RowKit Go.Lib

set_option maxRecDepth 100000 in
set_option maxHeartbeats 1000000 in
theorem refFrom_any (a b : Int) (w : World) (ha : I64 a) (hb : I64 b) :
    Calls Tryz.prog 58 #[.int .i64 a, .int .i64 b] w fun e w' => e = .returned (.int .i64 (fromW a b)) ∧ w = w' := by
  have C1 := Lib.hid (refSub_any a b w ha hb)
  have C2 := Lib.hid (refAdd_any (endsI (a - b)) 1 w (endsI_i64 _) (by unfold I64; omega))
  unfold fromW
  generalize endsI (a - b) = s at C1 C2 ⊢
  generalize endsI (s + 1) = t at C2 ⊢
  clear ha hb
  go_enter Tryz.func58, Tryz.ntmps58
  go_wp2_with (first
    | (go_at_call 123
       refine C1.out.mono ?_
       rintro e w1 ⟨rfl, rfl⟩)
    | (go_at_call 122
       refine C2.out.mono ?_
       rintro e w1 ⟨rfl, rfl⟩))
  go_ret
  exact ⟨rfl, rfl⟩

set_option maxRecDepth 100000 in
set_option maxHeartbeats 1000000 in
theorem refSum_any (v : Value) (l : List Int) (w : World) (hv : RowIn 1 nmC w v l) (hl : l.length ≤ 1000000) (hi : ∀ n ∈ l, I64 n) :
    Calls Tryz.prog 120 #[v] w fun e w' => e = .returned (.int .i64 (sumE l 0)) ∧ w = w' := by
  obtain ⟨A, c, rfl⟩ := hv.form
  have HV := Lib.hid hv
  have HI := Lib.hid hi
  have hl9 : l.length ≤ 9223372036854775807 := by omega
  clear hv hi
  go_enter Tryz.func120, Tryz.ntmps120
  go_wp2
  go_loopg [3, 4] l.length (fun g s3 s8 wr => ∃ k : Nat, k ≤ l.length ∧ l.length - k ≤ g ∧ s8 = .int .i64 k ∧ s3 = .int .i64 (sumE (l.take k) 0) ∧ w = wr)
  case atStart => exact ⟨0, Nat.zero_le _, Nat.le_refl _, rfl, by simp [sumE], rfl⟩
  case round =>
    obtain ⟨k, hk, hg, rfl, rfl, rfl⟩ := hrel
    by_cases hlt : k < l.length
    · obtain ⟨b1, o1, rfl, hb1, hc⟩ := HV.out.at_ hlt
      have z1 : (0 : Int) ≤ (k : Int) := by omega
      have z2 : (k : Int) < (l.length : Int) := by omega
      have HS := Lib.hid (show sumE (l.take (k + 1)) 0 = endsI (sumE (l.take k) 0 + l[k]) by rw [List.take_succ_eq_append_getElem hlt, sumE_snoc])
      have d0 := hc 0 _ rfl
      rw [Nat.add_zero, Nat.mul_one] at d0
      have HN := Lib.hid (refAdd_any (sumE (l.take k) 0) l[k] w (sumE_i64 _ _ i64_0) (HI.out _ (List.getElem_mem hlt)))
      rw [← HS.out] at HN
      generalize sumE (l.take k) 0 = s at HN ⊢
      generalize l[k] = x at HN d0
      clear hc HS
      go_wp2_with (first
        | (go_at_call 122
           refine HN.out.mono ?_
           rintro e w1 ⟨rfl, rfl⟩))
      go_roundg (l.length - (k + 1))
      case measure => omega
      case rel => exact ⟨k + 1, hlt, Nat.le_refl _, by go_num, rfl, rfl⟩
    · obtain rfl : k = l.length := by omega
      rw [List.take_length]
      go_wp2
      go_ret
      exact ⟨rfl, rfl⟩
set_option maxRecDepth 100000 in
set_option maxHeartbeats 2000000 in
theorem refCut_any (v : Value) (l : List Smp) (a b : Int) (w : World) (hv : RowIn 2 smpC w v l) (hl : l.length ≤ 1000000) :
    Calls Tryz.prog 57 #[v, .int .i64 a, .int .i64 b] w fun e w' => ∃ A c, e = .returned (.slice A (winC l a b).length c) ∧ OwnL smpC 42 2 w.heap.size w' (.slice A (winC l a b).length c) (winC l a b) ∧ Below w.heap.size w w' := by
  obtain ⟨A, c, rfl⟩ := hv.form
  have HV := Lib.hid hv
  have HL := Lib.hid hl
  have hl9 : l.length ≤ 9223372036854775807 := by omega
  clear hv hl
  go_enter Tryz.func57, Tryz.ntmps57
  go_wp2
  go_loopg [7, 8] l.length (fun g s7 s12 wr => ∃ k : Nat, k ≤ l.length ∧ l.length - k ≤ g ∧ s12 = .int .i64 k ∧ OwnL smpC 42 2 w.heap.size wr s7 (winC (l.take k) a b) ∧ Below w.heap.size w wr)
  case atStart => exact ⟨0, Nat.zero_le _, Nat.le_refl _, rfl, by simp [winC]; exact OwnL.nil _ _, Below.refl _ _⟩
  case round =>
    obtain ⟨k, hk, hg, rfl, hown, hb⟩ := hrel
    rename World => wr
    obtain ⟨pre, hpre⟩ : ∃ pre, pre = winC (l.take k) a b := ⟨_, rfl⟩
    rw [← hpre] at hown
    obtain ⟨A5, c5, rfl⟩ := hown.form
    have HPL := Lib.hid (show pre.length ≤ k by rw [hpre]; exact Nat.le_trans (cut_len _ _ _) (by simp; omega))
    have HPRE := Lib.hid hpre
    have HO := Lib.hid hown
    have HB := Lib.hid hb
    clear hpre hown hb
    by_cases hlt : k < l.length
    · obtain ⟨b1, o1, rfl, hb1, hc⟩ := (HV.out.below HB.out).at_ hlt
      have z1 : (0 : Int) ≤ (k : Int) := by omega
      have z2 : (k : Int) < (l.length : Int) := by omega
      have HTK := Lib.hid (show winC (l.take (k + 1)) a b = pre ++ if a ≤ l[k].1 ∧ l[k].1 ≤ b then [l[k]] else [] by rw [List.take_succ_eq_append_getElem hlt, winC_snoc, HPRE.out])
      generalize l[k] = x at hc HTK
      have d0 := hc 0 _ rfl
      have d1 := hc 1 _ rfl
      rw [Nat.add_zero] at d0
      have HK := Lib.hid hlt
      clear hc
      by_cases h1 : a ≤ x.1
      · by_cases h2 : x.1 ≤ b
        · as_aux_lemma =>
          go_wp2_with (first
            | (at_builtin
               refine wpList_appendL eSmp (by rfl) (by rfl) w.heap.size pre [x] (.slice A5 pre.length c5) _ (by rfl) (by rfl) (HO.out.below (balloc (Below.refl _ _) _)) (RowIn.lit _ x _ _ wr.heap.size rfl rfl) (by have := HPL.out; have := HL.out; have := HK.out; simp; omega) (by have := HB.out.size; simp; omega) ?_
               intro out2 A9 c9 w13 hout2 hown2 hg2 _
               have HO13 := Lib.hid hout2
               have HW13 := Lib.hid hown2
               have HB13 := Lib.hid (show Below w.heap.size w w13 from (balloc HB.out _).trans (grown_own hg2 HO.out (by have := HB.out.size; simp; omega)))
               clear hout2 hown2 hg2))
          go_roundg (l.length - (k + 1))
          case measure => omega
          case rel => exact ⟨k + 1, HK.out, Nat.le_refl _, by go_num, by rw [HTK.out, if_pos ⟨h1, h2⟩, ← HO13.out]; exact HW13.out, HB13.out⟩
        · as_aux_lemma =>
          go_wp2_with fail
          go_roundg (l.length - (k + 1))
          case measure => omega
          case rel => exact ⟨k + 1, HK.out, Nat.le_refl _, by go_num, by rw [HTK.out, if_neg (by omega), List.append_nil]; exact HO.out, HB.out⟩
      · as_aux_lemma =>
        go_wp2_with fail
        go_roundg (l.length - (k + 1))
        case measure => omega
        case rel => exact ⟨k + 1, HK.out, Nat.le_refl _, by go_num, by rw [HTK.out, if_neg (by omega), List.append_nil]; exact HO.out, HB.out⟩
    · obtain rfl : k = l.length := by omega
      have hp := HPRE.out
      rw [List.take_length] at hp
      have HP := Lib.hid hp
      clear hp
      go_wp2_with fail
      go_ret
      exact ⟨A5, c5, by rw [HP.out]; rfl, by rw [← HP.out]; exact HO.out, HB.out⟩

set_option maxRecDepth 100000 in
set_option maxHeartbeats 2000000 in
theorem refVals_any (v : Value) (l : List Smp) (w : World) (hv : RowIn 2 smpC w v l) (hl : l.length ≤ 1000000) :
    Calls Tryz.prog 119 #[v] w fun e w' => ∃ A c, e = .returned (.slice A (valsW l).length c) ∧ OwnL nmC 2 1 w.heap.size w' (.slice A (valsW l).length c) (valsW l) ∧ Below w.heap.size w w' := by
  obtain ⟨A, c, rfl⟩ := hv.form
  have HV := Lib.hid hv
  have HL := Lib.hid hl
  have hl9 : l.length ≤ 9223372036854775807 := by omega
  clear hv hl
  go_enter Tryz.func119, Tryz.ntmps119
  go_wp2
  go_loopg [3, 4] l.length (fun g s7 s12 wr => ∃ k : Nat, k ≤ l.length ∧ l.length - k ≤ g ∧ s12 = .int .i64 k ∧ OwnL nmC 2 1 w.heap.size wr s7 (valsW (l.take k)) ∧ Below w.heap.size w wr)
  case atStart => exact ⟨0, Nat.zero_le _, Nat.le_refl _, rfl, by simp [valsW]; exact OwnL.nil _ _, Below.refl _ _⟩
  case round =>
    obtain ⟨k, hk, hg, rfl, hown, hb⟩ := hrel
    rename World => wr
    obtain ⟨pre, hpre⟩ : ∃ pre, pre = valsW (l.take k) := ⟨_, rfl⟩
    rw [← hpre] at hown
    obtain ⟨A5, c5, rfl⟩ := hown.form
    have HPL := Lib.hid (show pre.length ≤ k by rw [hpre, vals_len]; simp; omega)
    have HPRE := Lib.hid hpre
    have HO := Lib.hid hown
    have HB := Lib.hid hb
    clear hpre hown hb
    by_cases hlt : k < l.length
    · obtain ⟨b1, o1, rfl, hb1, hc⟩ := (HV.out.below HB.out).at_ hlt
      have z1 : (0 : Int) ≤ (k : Int) := by omega
      have z2 : (k : Int) < (l.length : Int) := by omega
      have HTK := Lib.hid (show valsW (l.take (k + 1)) = pre ++ [max l[k].2 0] by rw [List.take_succ_eq_append_getElem hlt, valsW_snoc, HPRE.out])
      generalize l[k] = x at hc HTK
      have d0 := hc 0 _ rfl
      have d1 := hc 1 _ rfl
      rw [Nat.add_zero] at d0
      have HK := Lib.hid hlt
      clear hc
      by_cases h0 : x.2 < 0
      · rw [Int.max_eq_right (by omega)] at HTK
        as_aux_lemma =>
        go_wp2_with (first
          | (at_builtin
             refine wpList_appendL eNm (by rfl) (by rfl) w.heap.size pre [0] (.slice A5 pre.length c5) _ (by rfl) (by rfl) (HO.out.below (balloc (Below.refl _ _) _)) (RowIn.lit _ (0) _ _ wr.heap.size rfl (by simp [nmC])) (by have := HPL.out; have := HL.out; have := HK.out; simp; omega) (by have := HB.out.size; simp; omega) ?_
             intro out2 A9 c9 w13 hout2 hown2 hg2 _
             have HO13 := Lib.hid hout2
             have HW13 := Lib.hid hown2
             have HB13 := Lib.hid (show Below w.heap.size w w13 from (balloc HB.out _).trans (grown_own hg2 HO.out (by have := HB.out.size; simp; omega)))
             clear hout2 hown2 hg2))
        go_roundg (l.length - (k + 1))
        case measure => omega
        case rel => exact ⟨k + 1, HK.out, Nat.le_refl _, by go_num, by rw [HTK.out, ← HO13.out]; exact HW13.out, HB13.out⟩
      · rw [Int.max_eq_left (by omega)] at HTK
        as_aux_lemma =>
        go_wp2_with (first
          | (at_builtin
             refine wpList_appendL eNm (by rfl) (by rfl) w.heap.size pre [x.2] (.slice A5 pre.length c5) _ (by rfl) (by rfl) (HO.out.below (balloc (Below.refl _ _) _)) (RowIn.lit _ (x.2) _ _ wr.heap.size rfl (by simp [nmC])) (by have := HPL.out; have := HL.out; have := HK.out; simp; omega) (by have := HB.out.size; simp; omega) ?_
             intro out2 A9 c9 w13 hout2 hown2 hg2 _
             have HO13 := Lib.hid hout2
             have HW13 := Lib.hid hown2
             have HB13 := Lib.hid (show Below w.heap.size w w13 from (balloc HB.out _).trans (grown_own hg2 HO.out (by have := HB.out.size; simp; omega)))
             clear hout2 hown2 hg2))
        go_roundg (l.length - (k + 1))
        case measure => omega
        case rel => exact ⟨k + 1, HK.out, Nat.le_refl _, by go_num, by rw [HTK.out, ← HO13.out]; exact HW13.out, HB13.out⟩
    · obtain rfl : k = l.length := by omega
      have hp := HPRE.out
      rw [List.take_length] at hp
      have HP := Lib.hid hp
      clear hp
      go_wp2_with fail
      go_ret
      exact ⟨A5, c5, by rw [HP.out]; rfl, by rw [← HP.out]; exact HO.out, HB.out⟩
end

section
set_option linter.unusedSimpArgs false
set_option linter.unusedVariables false
open Go.RowKit Go.Lib

set_option maxRecDepth 100000 in
set_option maxHeartbeats 4000000 in
theorem refMean_any (v : Value) (l : List Int) (w : World) (hv : RowIn 1 nmC w v l) (hl : l.length ≤ 1000000) (hi : ∀ n ∈ l, 0 ≤ n ∧ n ≤ 9223372036854775807) :
    Calls Tryz.prog 121 #[v, .int .i64 (meanN l : Nat)] w fun e w' => e = .returned (.bool true) ∧ Below w.heap.size w w' := by
  obtain ⟨A, c, rfl⟩ := hv.form
  have hl9 : l.length ≤ 9223372036854775807 := by omega
  by_cases hne : l = []
  · have HM : meanN l = 0 := by rw [hne]; rfl
    have q2 : ((l.length : Int) == 0) = true := by simp [hne]
    rw [HM]
    clear hv hi hne HM
    go_enter Tryz.func121, Tryz.ntmps121
    go_wp2_with fail
    go_ret
    exact ⟨rfl, Below.refl _ _⟩
  · have hp : 0 < l.length := List.length_pos_iff.2 hne
    have CT := Lib.hid (numTotal_any (.slice A l.length c) l w hv hl hi)
    have htl := totN_le (fun n hn => (hi n hn).2)
    have hml := meanN_le (fun n hn => (hi n hn).2)
    have hmn : meanN l = (totN l + (l.length - 1)) / l.length := by unfold meanN; rw [if_neg hne]
    have htl2 : totN l ≤ 1000000 * 9223372036854775807 := Nat.le_trans htl (Nat.mul_le_mul_right _ hl)
    have q1 : ((l.length : Int) == 0) = false := by simpa using hne
    have q2 : IntKind.u64.wrap (l.length : Int) = (l.length : Int) := u64_wrap _ (by omega)
    generalize totN l = t at CT hmn htl2
    generalize meanN l = m at hml hmn ⊢
    have CU := Lib.hid (fun W => show Calls Tryz.prog 169 #[numV t, .int .u64 l.length, .int .u64 m] W fun e w' => e = .returned (.bool true) ∧ Below W.heap.size W w' from by
      have h := numUp_any t l.length m (by omega) (by omega) (by omega) W
      rw [decide_eq_true ((up_law hp).2 hmn)] at h
      exact h)
    have q3 : IntKind.u64.wrap (m : Int) = (m : Int) := u64_wrap _ (by omega)
    have q4 : (0 : Int) ≤ (m : Int) := by omega
    have q5 : ¬ (l.length : Int) = 0 := by omega
    clear hv hi hne hp htl hml hmn htl2
    go_enter Tryz.func121, Tryz.ntmps121
    go_wp2_with (first
      | (go_at_call 170
         refine CT.out.mono ?_
         rintro e w1 ⟨rfl, hb1⟩
         have HB1 := Lib.hid hb1
         clear hb1)
      | (go_at_call 169
         refine (CU.out w1).mono ?_
         rintro e w2 ⟨rfl, hb2⟩
         have HB2 := Lib.hid (bthen HB1.out hb2)
         clear hb2))
    go_ret
    exact ⟨rfl, HB2.out⟩

theorem foldl_min_ge {l : List Int} {a n : Int} : (l ++ [n]).foldl min a = min (l.foldl min a) n := by simp [List.foldl_append]
theorem foldl_max_ge {l : List Int} {a n : Int} : (l ++ [n]).foldl max a = max (l.foldl max a) n := by simp [List.foldl_append]
theorem minL_fold {l : List Int} (h : 0 < l.length) : l.foldl min l[0] = minL l := by
  cases l with
  | nil => simp at h
  | cons a l => simp [minL]
theorem maxL_fold {l : List Int} (h : 0 < l.length) : l.foldl max l[0] = maxL l := by
  cases l with
  | nil => simp at h
  | cons a l => simp [maxL]

set_option maxRecDepth 100000 in
set_option maxHeartbeats 4000000 in
theorem refIs_any (v : Value) (l : List Smp) (w : World) (hv : RowIn 2 smpC w v l) (hl : l.length ≤ 1000000) (hi : smpI l) :
    Calls Tryz.prog 56 #[v, stV (statN (valsW l))] w fun e w' => e = .returned (.bool true) ∧ Below w.heap.size w w' := by
  have CV := Lib.hid (fun W (hW : Below w.heap.size w W) => refVals_any v l W (hv.below hW) hl)
  have hvi := vals_i64 hi
  have hvl : (valsW l).length ≤ 1000000 := by rw [vals_len]; exact hl
  clear hv hi hl
  generalize valsW l = n at *
  have hl9 : n.length ≤ 9223372036854775807 := by omega
  by_cases hne : n = []
  · subst hne
    unfold statN stV st0
    rw [if_pos rfl]
    simp only
    have q2 : (((([] : List Int).length : Nat) : Int) == 0) = true := rfl
    clear hl9 hvi hvl
    go_enter Tryz.func56, Tryz.ntmps56
    go_wp2_with (first
      | (go_at_call 119
         refine calls_named ?_
         intro W1 hW1
         have hb1 : Below w.heap.size w W1 := by rw [hW1]; exact balloc (Below.refl _ _) _
         have hx1 : W1.heap[w.heap.size]? = some (.cells #[.int .i64 0, .int .i64 0, .int .i64 0, .int .i64 0, .int .i64 0] 60 (0, 0)) := by rw [hW1]; exact heap_alloc_new _ _
         clear hW1
         refine (CV.out W1 hb1).mono ?_
         rintro e w2 ⟨A, c, rfl, ho, hb2⟩
         have HX2 := Lib.hid (box_below (w := w) hx1 hb2)
         obtain ⟨e1, e2, e3⟩ := box_cells (Below.refl _ _) HX2.out
         have HB2 := Lib.hid (bthen hb1 hb2)
         clear hb1 hx1 ho hb2))
    go_ret
    exact ⟨rfl, HB2.out⟩
  · have hp : 0 < n.length := List.length_pos_iff.2 hne
    unfold statN stV
    rw [if_neg hne]
    simp only
    have CS := Lib.hid (fun v W (h : RowIn 1 nmC W v n) => refSum_any v n W h hvl (fun m hm => by have := hvi m hm; unfold I64; omega))
    have CM := Lib.hid (fun v W (h : RowIn 1 nmC W v n) => refMean_any v n W h hvl hvi)
    generalize sumE n 0 = sm at CS ⊢
    generalize meanN n = mn at CM ⊢
    obtain ⟨lo, hlo⟩ : ∃ lo, lo = minL n := ⟨_, rfl⟩
    obtain ⟨hi, hhi⟩ : ∃ hi, hi = maxL n := ⟨_, rfl⟩
    rw [← hlo, ← hhi]
    have q1 : ((n.length : Int) == 0) = false := by simpa using hne
    have q3 : ¬ (n.length : Int) = 0 := by omega
    have q4 : (0 : Int) < (n.length : Int) := by omega
    have HP := Lib.hid hp
    obtain ⟨x0, hx0⟩ : ∃ x0, x0 = n[0] := ⟨_, rfl⟩
    have HX0 := Lib.hid hx0
    have HMF := Lib.hid (show n.foldl min x0 = lo ∧ n.foldl max x0 = hi by rw [hx0, hlo, hhi]; exact ⟨minL_fold hp, maxL_fold hp⟩)
    clear hlo hhi hne hvi hvl hx0
    go_enter Tryz.func56, Tryz.ntmps56
    go_upto_region 4 with (first
      | (go_at_call 119
         refine calls_named ?_
         intro W1 hW1
         have hb1 : Below w.heap.size w W1 := by rw [hW1]; exact balloc (Below.refl _ _) _
         have hx1 : W1.heap[w.heap.size]? = some (.cells #[.int .i64 n.length, .int .i64 sm, .int .i64 lo, .int .i64 hi, .int .i64 mn] 60 (0, 0)) := by rw [hW1]; exact heap_alloc_new _ _
         clear hW1
         refine (CV.out W1 hb1).mono ?_
         rintro e w2 ⟨A2, c2, rfl, ho, hb2⟩
         have HX2 := Lib.hid (box_below (w := w) hx1 hb2)
         have HR2 := Lib.hid (ho.row eNm)
         have HB2 := Lib.hid (bthen hb1 hb2)
         clear hb1 hx1 ho hb2))
    obtain ⟨b1, o1, rfl, hb1, hc⟩ := HR2.out.at_ hp
    have d0 := hc 0 _ rfl
    simp only [Nat.zero_mul, Nat.add_zero] at d0
    replace d0 : w2.cell? ⟨b1, o1, none⟩ = some (.int .i64 x0) := by rw [HX0.out]; exact d0
    clear hc hp
    go_wp2_with fail
    clear d0
    go_loopg [6, 7, 8] n.length (fun g s6 s7 s8 wr => ∃ k : Nat, k ≤ n.length ∧ n.length - k ≤ g ∧ s8 = .int .i64 k ∧ s6 = .int .i64 ((n.take k).foldl min x0) ∧ s7 = .int .i64 ((n.take k).foldl max x0) ∧ w2 = wr)
    case atStart => exact ⟨0, Nat.zero_le _, Nat.le_refl _, rfl, rfl, rfl, rfl⟩
    case round =>
      obtain ⟨k, hk, hg, rfl, rfl, rfl, rfl⟩ := hrel
      by_cases hlt : k < n.length
      · obtain ⟨b2, o2, he, hb2, hc⟩ := HR2.out.at_ hlt
        injection he with he
        injection he with e1 e2
        subst e1 e2
        have z1 : (0 : Int) ≤ (k : Int) := by omega
        have z2 : (k : Int) < (n.length : Int) := by omega
        have HS := Lib.hid (show (n.take (k + 1)).foldl min x0 = min ((n.take k).foldl min x0) n[k] ∧ (n.take (k + 1)).foldl max x0 = max ((n.take k).foldl max x0) n[k] by rw [List.take_succ_eq_append_getElem hlt]; exact ⟨foldl_min_ge, foldl_max_ge⟩)
        have d2 := hc 0 _ rfl
        rw [Nat.add_zero, Nat.mul_one] at d2
        generalize (n.take k).foldl min x0 = a at HS ⊢
        generalize (n.take k).foldl max x0 = b at HS ⊢
        generalize n[k] = x at HS d2
        clear hc
        by_cases h1 : x < a
        · by_cases h2 : b < x
          · as_aux_lemma =>
            go_wp2_with fail
            go_roundg (n.length - (k + 1))
            case measure => omega
            case rel => exact ⟨k + 1, by omega, Nat.le_refl _, by go_num, by rw [HS.out.1, Int.min_eq_right (by omega)], by rw [HS.out.2, Int.max_eq_right (by omega)], rfl⟩
          · as_aux_lemma =>
            go_wp2_with fail
            go_roundg (n.length - (k + 1))
            case measure => omega
            case rel => exact ⟨k + 1, by omega, Nat.le_refl _, by go_num, by rw [HS.out.1, Int.min_eq_right (by omega)], by rw [HS.out.2, Int.max_eq_left (by omega)], rfl⟩
        · by_cases h2 : b < x
          · as_aux_lemma =>
            go_wp2_with fail
            go_roundg (n.length - (k + 1))
            case measure => omega
            case rel => exact ⟨k + 1, by omega, Nat.le_refl _, by go_num, by rw [HS.out.1, Int.min_eq_left (by omega)], by rw [HS.out.2, Int.max_eq_right (by omega)], rfl⟩
          · as_aux_lemma =>
            go_wp2_with fail
            go_roundg (n.length - (k + 1))
            case measure => omega
            case rel => exact ⟨k + 1, by omega, Nat.le_refl _, by go_num, by rw [HS.out.1, Int.min_eq_left (by omega)], by rw [HS.out.2, Int.max_eq_left (by omega)], rfl⟩
      · obtain rfl : k = n.length := by omega
        rw [List.take_length, HMF.out.1, HMF.out.2]
        go_upto_region 13 with fail
        refine name_world ?_
        intro W4 hW4
        have HX4 := Lib.hid (show W4.heap[w.heap.size]? = some (.cells #[.int .i64 n.length, .int .i64 sm, .int .i64 lo, .int .i64 hi, .int .i64 mn] 60 (0, 0)) by rw [hW4]; exact HX2.out)
        have HR4 := Lib.hid (show RowIn 1 nmC W4 (.slice (some ⟨b1, o1, none⟩) n.length c2) n by rw [hW4]; exact HR2.out)
        have HBW := Lib.hid (show Below w.heap.size w W4 by rw [hW4]; exact HB2.out)
        have HB4r := Lib.hid (Below.refl W4.heap.size W4)
        clear hW4
        refine wp_region_held_drew (S := (fun U : World => Below W4.heap.size W4 U)) (by kernel_rfl) ?hS1 (fun hHeld => ?_)
        case hS1 => first | with_reducible exact HB4r.out | exact HB4r.out.drew | with_reducible exact HB5.out | with_reducible exact HB6.out
        refine wpAnyH_take (i := 0) (v := ?v2) rfl (by kernel_rfl) (by kernel_rfl) (by kernel_rfl) (fun _ _ _ h => h) (Or.inl ⟨by rfl, ?hy2⟩) (by assumption) ?_
        case hy2 =>
          intro w' hSw
          (try dsimp only at hSw)
          go_simp
          try (with_reducible rfl)
        try simp only [Act.put, List.getElem_toArray, List.getElem_cons_succ, List.getElem_cons_zero, List.setIfInBounds_toArray, List.set_cons_zero, List.set_cons_succ]
        refine wpAnyH_take (i := 1) (v := ?v3) rfl (by kernel_rfl) (by kernel_rfl) (by kernel_rfl) (fun _ _ _ h => h) (Or.inl ⟨by rfl, ?hy3⟩) (by assumption) ?_
        case hy3 =>
          intro w' hSw
          (try dsimp only at hSw)
          have q1 := (box_cells hSw HX4.out).1
          go_simp
          try (with_reducible rfl)
        try simp only [Act.put, List.getElem_toArray, List.getElem_cons_succ, List.getElem_cons_zero, List.setIfInBounds_toArray, List.set_cons_zero, List.set_cons_succ]
        refine wpAnyH_take (i := 2) (v := ?v4) rfl (by kernel_rfl) (by kernel_rfl) (by kernel_rfl) (fun _ _ _ h => h) (Or.inl ⟨by rfl, ?hy4⟩) (by assumption) ?_
        case hy4 =>
          intro w' hSw
          (try dsimp only at hSw)
          go_simp
          try (with_reducible rfl)
        try simp only [Act.put, List.getElem_toArray, List.getElem_cons_succ, List.getElem_cons_zero, List.setIfInBounds_toArray, List.set_cons_zero, List.set_cons_succ]
        refine wpAnyH_take (i := 3) (v := ?v5) rfl (by kernel_rfl) (by kernel_rfl) (by kernel_rfl) (fun _ _ _ h => h) (Or.inl ⟨by rfl, ?hy5⟩) (by assumption) ?_
        case hy5 =>
          intro w' hSw
          (try dsimp only at hSw)
          go_simp
          try (with_reducible rfl)
        try simp only [Act.put, List.getElem_toArray, List.getElem_cons_succ, List.getElem_cons_zero, List.setIfInBounds_toArray, List.set_cons_zero, List.set_cons_succ]
        refine wpAnyH_take (i := 4) (v := ?v6) rfl (by kernel_rfl) (by kernel_rfl) (by kernel_rfl) (fun _ _ _ h => h) (Or.inl ⟨by rfl, ?hy6⟩) (by assumption) ?_
        case hy6 =>
          intro w' hSw
          (try dsimp only at hSw)
          go_simp
          try (with_reducible rfl)
        try simp only [Act.put, List.getElem_toArray, List.getElem_cons_succ, List.getElem_cons_zero, List.setIfInBounds_toArray, List.set_cons_zero, List.set_cons_succ]
        refine wpAnyH_take (i := 5) (v := ?v7) rfl (by kernel_rfl) (by kernel_rfl) (by kernel_rfl) (fun _ _ _ h => h) (Or.inl ⟨by rfl, ?hy7⟩) (by assumption) ?_
        case hy7 =>
          intro w' hSw
          (try dsimp only at hSw)
          go_simp
          try (with_reducible rfl)
        try simp only [Act.put, List.getElem_toArray, List.getElem_cons_succ, List.getElem_cons_zero, List.setIfInBounds_toArray, List.set_cons_zero, List.set_cons_succ]
        refine wpAnyH_take (i := 6) (v := ?v8) rfl (by kernel_rfl) (by kernel_rfl) (by kernel_rfl) (fun _ _ _ h => h) (Or.inl ⟨by rfl, ?hy8⟩) (by assumption) ?_
        case hy8 =>
          intro w' hSw
          (try dsimp only at hSw)
          go_simp
          try (with_reducible rfl)
        try simp only [Act.put, List.getElem_toArray, List.getElem_cons_succ, List.getElem_cons_zero, List.setIfInBounds_toArray, List.set_cons_zero, List.set_cons_succ]
        refine wpAnyH_take (i := 7) (v := ?v9) rfl (by kernel_rfl) (by kernel_rfl) (by kernel_rfl) (fun _ _ _ h => h) (Or.inl ⟨by rfl, ?hy9⟩) (by assumption) ?_
        case hy9 =>
          intro w' hSw
          (try dsimp only at hSw)
          have q1 := (box_cells hSw HX4.out).1
          go_simp
          try (with_reducible rfl)
        try simp only [Act.put, List.getElem_toArray, List.getElem_cons_succ, List.getElem_cons_zero, List.setIfInBounds_toArray, List.set_cons_zero, List.set_cons_succ]
        refine wpAnyH_take (i := 8) (v := ?v10) rfl (by kernel_rfl) (by kernel_rfl) (by kernel_rfl) (fun _ _ _ h => h) (Or.inl ⟨by rfl, ?hy10⟩) (by assumption) ?_
        case hy10 =>
          intro w' hSw
          (try dsimp only at hSw)
          go_simp
          try (with_reducible rfl)
        try simp only [Act.put, List.getElem_toArray, List.getElem_cons_succ, List.getElem_cons_zero, List.setIfInBounds_toArray, List.set_cons_zero, List.set_cons_succ]
        refine wpAnyH_ready (rs := [9]) (by kernel_rfl) (by simp) ?_
        refine AllReadyH.cons rfl (fun K hK => ?_) AllReadyH.nil
        go_simp
        go_at_call 120
        refine calls_named ?_
        intro W5 hW5
        have hb5 : Below W4.heap.size W4 W5 := by rw [hW5]; first | exact Below.refl _ _ | exact (Below.refl _ _).drew
        clear hW5
        refine (CS.out _ W5 (HR4.out.below hb5)).mono ?_
        rintro e w5 ⟨rfl, hw⟩
        have HB5 := Lib.hid (show Below W4.heap.size W4 w5 by rw [← hw]; exact hb5)
        clear hb5 hw
        try go_simp
        refine hK.out _ _ ?hS11 (fun hHeld2 => ?_)
        case hS11 => first | with_reducible exact HB4r.out | exact HB4r.out.drew | with_reducible exact HB5.out | with_reducible exact HB6.out
        clear hK K hHeld
        have hHeld := hHeld2
        clear hHeld2
        try simp only [Act.put, List.getElem_toArray, List.getElem_cons_succ, List.getElem_cons_zero, List.setIfInBounds_toArray, List.set_cons_zero, List.set_cons_succ]
        refine wpAnyH_take (i := 10) (v := ?v12) rfl (by kernel_rfl) (by kernel_rfl) (by kernel_rfl) (fun _ _ _ h => h) (Or.inl ⟨by rfl, ?hy12⟩) (by assumption) ?_
        case hy12 =>
          intro w' hSw
          (try dsimp only at hSw)
          go_simp
          try (with_reducible rfl)
        try simp only [Act.put, List.getElem_toArray, List.getElem_cons_succ, List.getElem_cons_zero, List.setIfInBounds_toArray, List.set_cons_zero, List.set_cons_succ]
        refine wpAnyH_take (i := 11) (v := ?v13) rfl (by kernel_rfl) (by kernel_rfl) (by kernel_rfl) (fun _ _ _ h => h) (Or.inl ⟨by rfl, ?hy13⟩) (by assumption) ?_
        case hy13 =>
          intro w' hSw
          (try dsimp only at hSw)
          go_simp
          try (with_reducible rfl)
        try simp only [Act.put, List.getElem_toArray, List.getElem_cons_succ, List.getElem_cons_zero, List.setIfInBounds_toArray, List.set_cons_zero, List.set_cons_succ]
        refine wpAnyH_take (i := 12) (v := ?v14) rfl (by kernel_rfl) (by kernel_rfl) (by kernel_rfl) (fun _ _ _ h => h) (Or.inl ⟨by rfl, ?hy14⟩) (by assumption) ?_
        case hy14 =>
          intro w' hSw
          (try dsimp only at hSw)
          go_simp
          try (with_reducible rfl)
        try simp only [Act.put, List.getElem_toArray, List.getElem_cons_succ, List.getElem_cons_zero, List.setIfInBounds_toArray, List.set_cons_zero, List.set_cons_succ]
        refine wpAnyH_take (i := 13) (v := ?v15) rfl (by kernel_rfl) (by kernel_rfl) (by kernel_rfl) (fun _ _ _ h => h) (Or.inl ⟨by rfl, ?hy15⟩) (by assumption) ?_
        case hy15 =>
          intro w' hSw
          (try dsimp only at hSw)
          go_simp
          try (with_reducible rfl)
        try simp only [Act.put, List.getElem_toArray, List.getElem_cons_succ, List.getElem_cons_zero, List.setIfInBounds_toArray, List.set_cons_zero, List.set_cons_succ]
        refine wpAnyH_take (i := 14) (v := ?v16) rfl (by kernel_rfl) (by kernel_rfl) (by kernel_rfl) (fun _ _ _ h => h) (Or.inl ⟨by rfl, ?hy16⟩) (by assumption) ?_
        case hy16 =>
          intro w' hSw
          (try dsimp only at hSw)
          have q1 := (box_cells hSw HX4.out).1
          go_simp
          try (with_reducible rfl)
        try simp only [Act.put, List.getElem_toArray, List.getElem_cons_succ, List.getElem_cons_zero, List.setIfInBounds_toArray, List.set_cons_zero, List.set_cons_succ]
        refine wpAnyH_take (i := 15) (v := ?v17) rfl (by kernel_rfl) (by kernel_rfl) (by kernel_rfl) (fun _ _ _ h => h) (Or.inl ⟨by rfl, ?hy17⟩) (by assumption) ?_
        case hy17 =>
          intro w' hSw
          (try dsimp only at hSw)
          go_simp
          try (with_reducible rfl)
        try simp only [Act.put, List.getElem_toArray, List.getElem_cons_succ, List.getElem_cons_zero, List.setIfInBounds_toArray, List.set_cons_zero, List.set_cons_succ]
        refine wpAnyH_take (i := 16) (v := ?v18) rfl (by kernel_rfl) (by kernel_rfl) (by kernel_rfl) (fun _ _ _ h => h) (Or.inl ⟨by rfl, ?hy18⟩) (by assumption) ?_
        case hy18 =>
          intro w' hSw
          (try dsimp only at hSw)
          go_simp
          try (with_reducible rfl)
        try simp only [Act.put, List.getElem_toArray, List.getElem_cons_succ, List.getElem_cons_zero, List.setIfInBounds_toArray, List.set_cons_zero, List.set_cons_succ]
        refine wpAnyH_take (i := 17) (v := ?v19) rfl (by kernel_rfl) (by kernel_rfl) (by kernel_rfl) (fun _ _ _ h => h) (Or.inl ⟨by rfl, ?hy19⟩) (by assumption) ?_
        case hy19 =>
          intro w' hSw
          (try dsimp only at hSw)
          go_simp
          try (with_reducible rfl)
        try simp only [Act.put, List.getElem_toArray, List.getElem_cons_succ, List.getElem_cons_zero, List.setIfInBounds_toArray, List.set_cons_zero, List.set_cons_succ]
        refine wpAnyH_take (i := 18) (v := ?v20) rfl (by kernel_rfl) (by kernel_rfl) (by kernel_rfl) (fun _ _ _ h => h) (Or.inl ⟨by rfl, ?hy20⟩) (by assumption) ?_
        case hy20 =>
          intro w' hSw
          (try dsimp only at hSw)
          go_simp
          try (with_reducible rfl)
        try simp only [Act.put, List.getElem_toArray, List.getElem_cons_succ, List.getElem_cons_zero, List.setIfInBounds_toArray, List.set_cons_zero, List.set_cons_succ]
        refine wpAnyH_take (i := 19) (v := ?v21) rfl (by kernel_rfl) (by kernel_rfl) (by kernel_rfl) (fun _ _ _ h => h) (Or.inl ⟨by rfl, ?hy21⟩) (by assumption) ?_
        case hy21 =>
          intro w' hSw
          (try dsimp only at hSw)
          go_simp
          try (with_reducible rfl)
        try simp only [Act.put, List.getElem_toArray, List.getElem_cons_succ, List.getElem_cons_zero, List.setIfInBounds_toArray, List.set_cons_zero, List.set_cons_succ]
        refine wpAnyH_take (i := 20) (v := ?v22) rfl (by kernel_rfl) (by kernel_rfl) (by kernel_rfl) (fun _ _ _ h => h) (Or.inl ⟨by rfl, ?hy22⟩) (by assumption) ?_
        case hy22 =>
          intro w' hSw
          (try dsimp only at hSw)
          have q1 := (box_cells hSw HX4.out).1
          go_simp
          try (with_reducible rfl)
        try simp only [Act.put, List.getElem_toArray, List.getElem_cons_succ, List.getElem_cons_zero, List.setIfInBounds_toArray, List.set_cons_zero, List.set_cons_succ]
        refine wpAnyH_take (i := 21) (v := ?v23) rfl (by kernel_rfl) (by kernel_rfl) (by kernel_rfl) (fun _ _ _ h => h) (Or.inl ⟨by rfl, ?hy23⟩) (by assumption) ?_
        case hy23 =>
          intro w' hSw
          (try dsimp only at hSw)
          go_simp
          try (with_reducible rfl)
        try simp only [Act.put, List.getElem_toArray, List.getElem_cons_succ, List.getElem_cons_zero, List.setIfInBounds_toArray, List.set_cons_zero, List.set_cons_succ]
        refine wpAnyH_take (i := 22) (v := ?v24) rfl (by kernel_rfl) (by kernel_rfl) (by kernel_rfl) (fun _ _ _ h => h) (Or.inl ⟨by rfl, ?hy24⟩) (by assumption) ?_
        case hy24 =>
          intro w' hSw
          (try dsimp only at hSw)
          go_simp
          try (with_reducible rfl)
        try simp only [Act.put, List.getElem_toArray, List.getElem_cons_succ, List.getElem_cons_zero, List.setIfInBounds_toArray, List.set_cons_zero, List.set_cons_succ]
        refine wpAnyH_take (i := 23) (v := ?v25) rfl (by kernel_rfl) (by kernel_rfl) (by kernel_rfl) (fun _ _ _ h => h) (Or.inl ⟨by rfl, ?hy25⟩) (by assumption) ?_
        case hy25 =>
          intro w' hSw
          (try dsimp only at hSw)
          go_simp
          try (with_reducible rfl)
        try simp only [Act.put, List.getElem_toArray, List.getElem_cons_succ, List.getElem_cons_zero, List.setIfInBounds_toArray, List.set_cons_zero, List.set_cons_succ]
        refine wpAnyH_take (i := 24) (v := ?v26) rfl (by kernel_rfl) (by kernel_rfl) (by kernel_rfl) (fun _ _ _ h => h) (Or.inl ⟨by rfl, ?hy26⟩) (by assumption) ?_
        case hy26 =>
          intro w' hSw
          (try dsimp only at hSw)
          go_simp
          try (with_reducible rfl)
        try simp only [Act.put, List.getElem_toArray, List.getElem_cons_succ, List.getElem_cons_zero, List.setIfInBounds_toArray, List.set_cons_zero, List.set_cons_succ]
        refine wpAnyH_take (i := 25) (v := ?v27) rfl (by kernel_rfl) (by kernel_rfl) (by kernel_rfl) (fun _ _ _ h => h) (Or.inl ⟨by rfl, ?hy27⟩) (by assumption) ?_
        case hy27 =>
          intro w' hSw
          (try dsimp only at hSw)
          go_simp
          try (with_reducible rfl)
        try simp only [Act.put, List.getElem_toArray, List.getElem_cons_succ, List.getElem_cons_zero, List.setIfInBounds_toArray, List.set_cons_zero, List.set_cons_succ]
        refine wpAnyH_take (i := 26) (v := ?v28) rfl (by kernel_rfl) (by kernel_rfl) (by kernel_rfl) (fun _ _ _ h => h) (Or.inl ⟨by rfl, ?hy28⟩) (by assumption) ?_
        case hy28 =>
          intro w' hSw
          (try dsimp only at hSw)
          go_simp
          try (with_reducible rfl)
        try simp only [Act.put, List.getElem_toArray, List.getElem_cons_succ, List.getElem_cons_zero, List.setIfInBounds_toArray, List.set_cons_zero, List.set_cons_succ]
        refine wpAnyH_take (i := 27) (v := ?v29) rfl (by kernel_rfl) (by kernel_rfl) (by kernel_rfl) (fun _ _ _ h => h) (Or.inl ⟨by rfl, ?hy29⟩) (by assumption) ?_
        case hy29 =>
          intro w' hSw
          (try dsimp only at hSw)
          have q1 := (box_cells hSw HX4.out).1
          go_simp
          try (with_reducible rfl)
        try simp only [Act.put, List.getElem_toArray, List.getElem_cons_succ, List.getElem_cons_zero, List.setIfInBounds_toArray, List.set_cons_zero, List.set_cons_succ]
        refine wpAnyH_ready (rs := [28]) (by kernel_rfl) (by simp) ?_
        refine AllReadyH.cons rfl (fun K hK => ?_) AllReadyH.nil
        go_simp
        go_at_call 121
        refine (CM.out _ w5 (HR4.out.below HB5.out)).mono ?_
        rintro e w6 ⟨rfl, hb6⟩
        have HB6 := Lib.hid (bthen HB5.out hb6)
        clear hb6
        try go_simp
        refine hK.out _ _ ?hS30 (fun hHeld2 => ?_)
        case hS30 => first | with_reducible exact HB4r.out | exact HB4r.out.drew | with_reducible exact HB5.out | with_reducible exact HB6.out
        clear hK K hHeld
        have hHeld := hHeld2
        clear hHeld2
        try simp only [Act.put, List.getElem_toArray, List.getElem_cons_succ, List.getElem_cons_zero, List.setIfInBounds_toArray, List.set_cons_zero, List.set_cons_succ]
        refine wpAnyH_take (i := 29) (v := ?v31) rfl (by kernel_rfl) (by kernel_rfl) (by kernel_rfl) (fun _ _ _ h => h) (Or.inl ⟨by rfl, ?hy31⟩) (by assumption) ?_
        case hy31 =>
          intro w' hSw
          (try dsimp only at hSw)
          go_simp
          try (with_reducible rfl)
        try simp only [Act.put, List.getElem_toArray, List.getElem_cons_succ, List.getElem_cons_zero, List.setIfInBounds_toArray, List.set_cons_zero, List.set_cons_succ]
        refine wpAnyH_take (i := 30) (v := ?v32) rfl (by kernel_rfl) (by kernel_rfl) (by kernel_rfl) (fun _ _ _ h => h) (Or.inl ⟨by rfl, ?hy32⟩) (by assumption) ?_
        case hy32 =>
          intro w' hSw
          (try dsimp only at hSw)
          go_simp
          try (with_reducible rfl)
        try simp only [Act.put, List.getElem_toArray, List.getElem_cons_succ, List.getElem_cons_zero, List.setIfInBounds_toArray, List.set_cons_zero, List.set_cons_succ]
        refine wpAnyH_done (by kernel_rfl) ?_ _
        go_wp2_with fail
        go_ret
        exact ⟨rfl, bthen HBW.out HB6.out⟩
end

section
set_option linter.unusedSimpArgs false
set_option linter.unusedVariables false
open Go.RowKit Go.Lib Go.Sort

set_option maxRecDepth 100000 in
set_option maxHeartbeats 8000000 in
theorem csame_core (C : Nat) (v : Value) (ks : List Ky) (fn : Ky → Nat) (fx : Ky → It) (til wd : Int) (w : World)
    (HK1 : Hid (∀ U, Below w.heap.size w U → Calls Tryz.prog 24 #[.pointer (some ⟨C, 0, none⟩)] U (RisW U ks)))
    (HK2 : Hid (Calls Tryz.prog 26 #[v] w (OwnsKeys w ks)))
    (HG : Hid (∀ k ∈ ks, ∀ U, Below w.heap.size w U → Calls Tryz.prog 19 #[.pointer (some ⟨C, 0, none⟩), .agg #[.int .u64 k.1, .int .u64 k.2]] U fun e w' => e = .returned (.tuple #[.pointer (some ⟨fn k, 0, none⟩), .bool true]) ∧ Below U.heap.size U w'))
    (HF : Hid (∀ k ∈ ks, ∀ U, Below w.heap.size w U → Calls Tryz.prog 55 #[v, .agg #[.int .u64 k.1, .int .u64 k.2]] U fun e w' => e = .returned (.tuple #[.agg (loadC (fx k)).toArray, .bool true]) ∧ Below U.heap.size U w'))
    (HST : Hid (∀ k ∈ ks, ∀ U, Below w.heap.size w U → Calls Tryz.prog 20 #[.pointer (some ⟨C, 0, none⟩), .agg #[.int .u64 k.1, .int .u64 k.2], .int .i64 til, .int .i64 wd] U fun e w' => e = .returned (.tuple #[stV (statW (fx k).nd.smp til wd), .bool true]) ∧ Below U.heap.size U w'))
    (HH : Hid (∀ k ∈ ks, ∀ U, Below w.heap.size w U → Calls Tryz.prog 22 #[.pointer (some ⟨fn k, 0, none⟩), .agg (loadC (fx k)).toArray] U fun e w' => e = .returned (.bool true) ∧ Below U.heap.size U w'))
    (HX : Hid (∀ k ∈ ks, RowIn 2 smpC w (.slice (fx k).sA (fx k).nd.smp.length (fx k).sc) (fx k).nd.smp ∧ (fx k).nd.smp.length ≤ 1000000 ∧ smpI (fx k).nd.smp))
    (HTO : Hid (∀ U, Below w.heap.size w U → Calls Tryz.prog 25 #[.pointer (some ⟨C, 0, none⟩), .int .i64 til, .int .i64 wd] U fun e w' => e = .returned (stV (totSt (fun k => statW (fx k).nd.smp til wd) ks)) ∧ Below U.heap.size U w'))
    (hks : ks.length ≤ 1000) (ht : I64 til) (hw : I64 wd) :
    Calls Tryz.prog 16 #[.pointer (some ⟨C, 0, none⟩), v, .int .i64 til, .int .i64 wd] w fun e w' => e = .returned (.bool true) ∧ Below w.heap.size w w' := by
  have HS1 := Lib.hid (show sameK ks ks = true from by simp [sameK])
  have HKL := Lib.hid hks
  have HLm := Lib.hid (show ks.length ≤ maxLen by unfold maxLen; omega)
  have CFR := Lib.hid (fun W => refFrom_any til wd W ht hw)
  have HOKS := Lib.hid (fun k (hk : k ∈ ks) => stat_ok (HX.out k hk).2.2 (HX.out k hk).2.1 til wd)
  have hks9 : ks.length ≤ 9223372036854775807 := by omega
  clear hks ht hw
  go_enter Tryz.func16, Tryz.ntmps16
  go_wp2_with (first
    | (go_at_call 26
       refine HK2.out.mono ?_
       rintro e w1 ⟨v1, rfl, h1, h2⟩
       rw [cellsK_row] at h1
       obtain ⟨A1, c1, rfl⟩ := own_form h1
       have HR1 := Lib.hid (OwnL.row eKyC (show OwnL keyC 40 2 _ w1 (.slice A1 ks.length c1) ks from h1))
       have HB1 := Lib.hid h2
       clear h1 h2)
    | (go_at_call 24
       refine (HK1.out w1 HB1.out).mono ?_
       intro e w2 hr
       obtain ⟨A2, c2, rfl, ho, hb⟩ := hr.own
       have HR2 := Lib.hid (keysIn_row (ho.row eKyC))
       have HR12 := Lib.hid (HR1.out.below hb)
       have HB2 := Lib.hid (bthen HB1.out hb)
       clear hr ho hb)
    | (go_at_call 28
       refine (same_any _ _ ks ks w2 HR2.out (keysIn_row HR12.out) HLm.out HLm.out).mono ?_
       rw [HS1.out]
       rintro e w3 ⟨rfl, hb⟩
       have HR3 := Lib.hid (HR12.out.below hb)
       have HB3 := Lib.hid (bthen HB2.out hb)
       clear hb))
  go_loopg [28] ks.length (fun g s28 wr => ∃ (k : Nat) (s : StD), k ≤ ks.length ∧ ks.length - k ≤ g ∧ s28 = .int .i64 k ∧ Hid (s = totSt (fun k => statW (fx k).nd.smp til wd) (ks.take k)) ∧ Hid (s.ok) ∧ Below w3.heap.size w3 wr ∧ wr.heap[w3.heap.size]? = some (.cells #[.int .i64 s.cnt, .int .i64 s.sum, .int .i64 s.least, .int .i64 s.most, .int .i64 s.mean] 60 (0, 0)))
  case atStart => exact ⟨0, st0, Nat.zero_le _, Nat.le_refl _, rfl, Lib.hid rfl, Lib.hid st0_ok, balloc (Below.refl _ _) _, heap_alloc_new _ _⟩
  case round =>
    obtain ⟨k, s, hk, hg, rfl, HSE, HSO, hb, hq⟩ := hrel
    rename World => wr
    obtain ⟨s0, s1, s2, s3, s4⟩ := s
    simp only at hq
    have HB := Lib.hid hb
    have HBwr := Lib.hid (bthen HB3.out hb)
    have HQ := Lib.hid hq
    clear hb hq
    by_cases hlt : k < ks.length
    · obtain ⟨b1, o1, rfl, hb1, hc⟩ := (HR3.out.below HB.out).at_ hlt
      have z1 : (0 : Int) ≤ (k : Int) := by omega
      have z2 : (k : Int) < (ks.length : Int) := by omega
      have hmem := List.getElem_mem hlt
      have KG := Lib.hid (HG.out _ hmem)
      have KF := Lib.hid (HF.out _ hmem)
      have KS := Lib.hid (HST.out _ hmem)
      have KH := Lib.hid (HH.out _ hmem)
      have KX := Lib.hid (HX.out _ hmem)
      have KO := Lib.hid (HOKS.out _ hmem)
      have HTK := Lib.hid (show totSt (fun k => statW (fx k).nd.smp til wd) (ks.take (k + 1)) = mergeW ⟨s0, s1, s2, s3, s4⟩ (statW (fx ks[k]).nd.smp til wd) by rw [List.take_succ_eq_append_getElem hlt, totSt_snoc, ← HSE.out])
      have KC := Lib.hid (fun U (hU : Below w.heap.size w U) => refCut_any (.slice (fx ks[k]).sA (fx ks[k]).nd.smp.length (fx ks[k]).sc) (fx ks[k]).nd.smp (fromW til wd) til U (KX.out.1.below hU) KX.out.2.1)
      have KI := Lib.hid (fun u U (hU : RowIn 2 smpC U u (winC (fx ks[k]).nd.smp (fromW til wd) til)) => show Calls Tryz.prog 56 #[u, stV (statW (fx ks[k]).nd.smp til wd)] U fun e w' => e = .returned (.bool true) ∧ Below U.heap.size U w' from refIs_any u _ U hU (Nat.le_trans (cut_len _ _ _) KX.out.2.1) (KX.out.2.2.cut _ _))
      generalize ks[k] = x at hc KG KF KS KH KX KO HTK KC KI
      have d0 := hc 0 _ rfl
      have d1 := hc 1 _ rfl
      rw [Nat.add_zero] at d0
      have HK := Lib.hid hlt
      clear hc hmem hlt
      generalize statW (fx x).nd.smp til wd = y at KS KO HTK KI
      obtain ⟨y0, y1, y2, y3, y4⟩ := y
      have CM := Lib.hid (fun W => winMerge_any ⟨s0, s1, s2, s3, s4⟩ ⟨y0, y1, y2, y3, y4⟩ W HSO.out KO.out)
      have HMO := Lib.hid (mergeW_ok HSO.out KO.out)
      generalize mergeW ⟨s0, s1, s2, s3, s4⟩ ⟨y0, y1, y2, y3, y4⟩ = m at CM HTK HMO
      obtain ⟨m0, m1, m2, m3, m4⟩ := m
      unfold stV at KS CM KI
      simp only at KS CM KI
      have hcs0 : (loadC (fx x))[0]? = some (.slice (fx x).sA (fx x).nd.smp.length (fx x).sc) := rfl
      have hcl : (loadC (fx x)).length = 10 := rfl
      have hone : ∀ u ∈ loadC (fx x), u.oneCell' = true := fun v hv => by
        simp only [loadC, List.mem_cons, List.not_mem_nil, or_false] at hv
        rcases hv with rfl | rfl | rfl | rfl | rfl | rfl | rfl | rfl | rfl | rfl <;> rfl
      generalize loadC (fx x) = cs at KF KH hcs0 hcl hone
      generalize fn x = fnx at KG KH
      generalize winC (fx x).nd.smp (fromW til wd) til = wc at KC KI
      generalize fromW til wd = fw at KC CFR
      generalize (fx x).sA = xA at KC hcs0
      generalize (fx x).nd.smp.length = xl at KC hcs0
      generalize (fx x).sc = xc at KC hcs0
      have hst2 := fun W => store_new (P := Tryz.prog) W 68 cs 10 hcl (by kernel_rfl) hone #[.slice none 0 0, .slice none 0 0, .int .i64 0, .int .i64 0, .int .i64 0, .int .i64 0, .int .i64 0, .int .i64 0, .bool false, .int .i64 0] rfl
      have HLL := Lib.hid hcl
      have HC00 := Lib.hid hcs0
      clear hcs0 hcl hone
      as_aux_lemma =>
        go_upto_region 11 with (first
          | (go_at_call 19
             refine calls_named ?_
             intro W4 hW4
             have hb4 : Below wr.heap.size wr W4 := by rw [hW4]; exact balloc (Below.refl _ _) _
             have hx4 : W4.heap[wr.heap.size]? = some (.cells #[.int .u64 x.1, .int .u64 x.2] 40 (0, 0)) := by rw [hW4]; exact heap_alloc_new _ _
             clear hW4
             refine (KG.out W4 (bthen HBwr.out hb4)).mono ?_
             rintro e w5 ⟨rfl, hb5⟩
             have HX5 := Lib.hid (box_below (w := w) hx4 hb5)
             obtain ⟨a1, a2, a3⟩ := box_cells (Below.refl _ _) HX5.out
             have HB5 := Lib.hid (bthen hb4 hb5)
             clear hb4 hx4 hb5)
          | (go_at_call 55
             refine (KF.out w5 (bthen HBwr.out HB5.out)).mono ?_
             rintro e w6 ⟨rfl, hb6⟩
             have HX6 := Lib.hid (box_below (w := w) HX5.out hb6)
             obtain ⟨a4, a5, a6⟩ := box_cells (Below.refl _ _) HX6.out
             have HB6 := Lib.hid (bthen HB5.out hb6)
             clear hb6)
          | (go_at_call 20
             refine calls_named ?_
             intro W7 hW7
             have hb7 : Below w6.heap.size w6 W7 := by rw [hW7]; exact balloc (Below.refl _ _) _
             have hl7 : W7.heap[w6.heap.size]? = some (.cells cs.toArray 68 (0, 0)) := by rw [hW7]; exact heap_alloc_new _ _
             clear hW7
             refine (KS.out W7 (bthen HBwr.out (bthen HB6.out hb7))).mono ?_
             rintro e w8 ⟨rfl, hb8⟩
             have HL8 := Lib.hid (box_below (w := w) hl7 hb8)
             have HB8 := Lib.hid (bthen HB6.out (bthen hb7 hb8))
             clear hb7 hl7 hb8))
        refine name_world ?_
        intro W9 hW9
        have hb9 : Below w8.heap.size w8 W9 := by rw [hW9]; exact balloc (Below.refl _ _) _
        have HSB := Lib.hid (show W9.heap[w8.heap.size]? = some (.cells #[.int .i64 y0, .int .i64 y1, .int .i64 y2, .int .i64 y3, .int .i64 y4] 60 (0, 0)) by rw [hW9]; exact heap_alloc_new _ _)
        have HLB := Lib.hid (box_below (w := w) HL8.out hb9)
        have HB9 := Lib.hid (bthen HB8.out hb9)
        have HBW9 := Lib.hid (bthen HBwr.out HB9.out)
        have HB9r := Lib.hid (Below.refl W9.heap.size W9)
        have HRNG := Lib.hid (show ∀ U, Below W9.heap.size W9 U → U.rangeAt w6.heap.size 0 cs from fun U hU q u hq => by rw [Nat.zero_add, (box_cells hU HLB.out).1 q]; simpa using hq)
        have HC0 := Lib.hid (show ∀ U, Below W9.heap.size W9 U → U.cell? ⟨w6.heap.size, 0, none⟩ = some (.slice xA xl xc) from fun U hU => by rw [(box_cells hU HLB.out).1 0]; simpa using HC00.out)
        clear hW9 hb9 hst2 d0 d1
        refine wp_region_held_drew (S := (fun U : World => Below W9.heap.size W9 U)) (by kernel_rfl) ?hS1 (fun hHeld => ?_)
        case hS1 => first | with_reducible exact HB9r.out | exact HB9r.out.drew | with_reducible exact HB10.out | with_reducible exact HB11.out | with_reducible exact HB12.out | with_reducible exact HB13.out
        refine wpAnyH_take (i := 0) (v := ?v2) rfl (by kernel_rfl) (by kernel_rfl) (by kernel_rfl) (fun _ _ _ h => h) (Or.inl ⟨by rfl, ?hy2⟩) (by assumption) ?_
        case hy2 =>
          intro w' hSw
          (try dsimp only at hSw)
          go_simp
          try (with_reducible rfl)
        try simp only [Act.put, List.getElem_toArray, List.getElem_cons_succ, List.getElem_cons_zero, List.setIfInBounds_toArray, List.set_cons_zero, List.set_cons_succ]
        refine wpAnyH_take (i := 1) (v := ?v3) rfl (by kernel_rfl) (by kernel_rfl) (by kernel_rfl) (fun _ _ _ h => h) (Or.inl ⟨by rfl, ?hy3⟩) (by assumption) ?_
        case hy3 =>
          intro w' hSw
          (try dsimp only at hSw)
          go_simp
          try (with_reducible rfl)
        try simp only [Act.put, List.getElem_toArray, List.getElem_cons_succ, List.getElem_cons_zero, List.setIfInBounds_toArray, List.set_cons_zero, List.set_cons_succ]
        refine wpAnyH_take (i := 2) (v := ?v4) rfl (by kernel_rfl) (by kernel_rfl) (by kernel_rfl) (fun _ _ _ h => h) (Or.inl ⟨by rfl, ?hy4⟩) (by assumption) ?_
        case hy4 =>
          intro w' hSw
          (try dsimp only at hSw)
          go_simp
          try (with_reducible rfl)
        try simp only [Act.put, List.getElem_toArray, List.getElem_cons_succ, List.getElem_cons_zero, List.setIfInBounds_toArray, List.set_cons_zero, List.set_cons_succ]
        refine wpAnyH_take (i := 3) (v := ?v5) rfl (by kernel_rfl) (by kernel_rfl) (by kernel_rfl) (fun _ _ _ h => h) (Or.inl ⟨by rfl, ?hy5⟩) (by assumption) ?_
        case hy5 =>
          intro w' hSw
          (try dsimp only at hSw)
          go_simp
          try (with_reducible rfl)
        try simp only [Act.put, List.getElem_toArray, List.getElem_cons_succ, List.getElem_cons_zero, List.setIfInBounds_toArray, List.set_cons_zero, List.set_cons_succ]
        refine wpAnyH_take (i := 4) (v := ?v6) rfl (by kernel_rfl) (by kernel_rfl) (by kernel_rfl) (fun _ _ _ h => h) (Or.inl ⟨by rfl, ?hy6⟩) (by assumption) ?_
        case hy6 =>
          intro w' hSw
          (try dsimp only at hSw)
          go_simp
          try (with_reducible rfl)
        try simp only [Act.put, List.getElem_toArray, List.getElem_cons_succ, List.getElem_cons_zero, List.setIfInBounds_toArray, List.set_cons_zero, List.set_cons_succ]
        refine wpAnyH_take (i := 5) (v := ?v7) rfl (by kernel_rfl) (by kernel_rfl) (by kernel_rfl) (fun _ _ _ h => h) (Or.inl ⟨by rfl, ?hy7⟩) (by assumption) ?_
        case hy7 =>
          intro w' hSw
          (try dsimp only at hSw)
          go_simp
          try (with_reducible rfl)
        try simp only [Act.put, List.getElem_toArray, List.getElem_cons_succ, List.getElem_cons_zero, List.setIfInBounds_toArray, List.set_cons_zero, List.set_cons_succ]
        refine wpAnyH_take (i := 6) (v := ?v8) rfl (by kernel_rfl) (by kernel_rfl) (by kernel_rfl) (fun _ _ _ h => h) (Or.inl ⟨by rfl, ?hy8⟩) (by assumption) ?_
        case hy8 =>
          intro w' hSw
          (try dsimp only at hSw)
          go_simp
          try (with_reducible rfl)
        try simp only [Act.put, List.getElem_toArray, List.getElem_cons_succ, List.getElem_cons_zero, List.setIfInBounds_toArray, List.set_cons_zero, List.set_cons_succ]
        refine wpAnyH_take (i := 7) (v := ?v9) rfl (by kernel_rfl) (by kernel_rfl) (by kernel_rfl) (fun _ _ _ h => h) (Or.inl ⟨by rfl, ?hy9⟩) (by assumption) ?_
        case hy9 =>
          intro w' hSw
          (try dsimp only at hSw)
          go_simp
          try (with_reducible rfl)
        try simp only [Act.put, List.getElem_toArray, List.getElem_cons_succ, List.getElem_cons_zero, List.setIfInBounds_toArray, List.set_cons_zero, List.set_cons_succ]
        refine wpAnyH_take (i := 8) (v := .agg (cs).toArray) rfl (by kernel_rfl) (by kernel_rfl) (by kernel_rfl) (fun _ _ _ h => h) (yieldsIf_load_mid (by rfl) 68 (.tmp 15) (by rfl) w6.heap.size (0) (by rfl) (cs) _ (HRNG.out) Tryz.underlying68 (by rfl) (by rw [HLL.out]; kernel_rfl)) (by assumption) ?_
        try simp only [Act.put, List.getElem_toArray, List.getElem_cons_succ, List.getElem_cons_zero, List.setIfInBounds_toArray, List.set_cons_zero, List.set_cons_succ]
        refine wpAnyH_ready (rs := [9]) (by kernel_rfl) (by simp) ?_
        refine AllReadyH.cons rfl (fun K hK => ?_) AllReadyH.nil
        go_simp
        go_at_call 22
        refine calls_named ?_
        intro W5 hW5
        have hb5 : Below W9.heap.size W9 W5 := by rw [hW5]; first | exact Below.refl _ _ | exact (Below.refl _ _).drew
        clear hW5
        refine (KH.out W5 (bthen HBW9.out hb5)).mono ?_
        rintro e w10 ⟨rfl, hb6⟩
        have HB10 := Lib.hid (bthen hb5 hb6)
        clear hb5 hb6
        try go_simp
        refine hK.out _ _ ?hS10 (fun hHeld2 => ?_)
        case hS10 => first | with_reducible exact HB9r.out | exact HB9r.out.drew | with_reducible exact HB10.out | with_reducible exact HB11.out | with_reducible exact HB12.out | with_reducible exact HB13.out
        clear hK K hHeld
        have hHeld := hHeld2
        clear hHeld2
        try simp only [Act.put, List.getElem_toArray, List.getElem_cons_succ, List.getElem_cons_zero, List.setIfInBounds_toArray, List.set_cons_zero, List.set_cons_succ]
        refine wpAnyH_take (i := 10) (v := ?v11) rfl (by kernel_rfl) (by kernel_rfl) (by kernel_rfl) (fun _ _ _ h => h) (Or.inl ⟨by rfl, ?hy11⟩) (by assumption) ?_
        case hy11 =>
          intro w' hSw
          (try dsimp only at hSw)
          go_simp
          try (with_reducible rfl)
        try simp only [Act.put, List.getElem_toArray, List.getElem_cons_succ, List.getElem_cons_zero, List.setIfInBounds_toArray, List.set_cons_zero, List.set_cons_succ]
        refine wpAnyH_take (i := 11) (v := ?v12) rfl (by kernel_rfl) (by kernel_rfl) (by kernel_rfl) (fun _ _ _ h => h) (Or.inl ⟨by rfl, ?hy12⟩) (by assumption) ?_
        case hy12 =>
          intro w' hSw
          (try dsimp only at hSw)
          go_simp
          try (with_reducible rfl)
        try simp only [Act.put, List.getElem_toArray, List.getElem_cons_succ, List.getElem_cons_zero, List.setIfInBounds_toArray, List.set_cons_zero, List.set_cons_succ]
        refine wpAnyH_take (i := 12) (v := ?v13) rfl (by kernel_rfl) (by kernel_rfl) (by kernel_rfl) (fun _ _ _ h => h) (Or.inl ⟨by rfl, ?hy13⟩) (by assumption) ?_
        case hy13 =>
          intro w' hSw
          (try dsimp only at hSw)
          go_simp
          try (with_reducible rfl)
        try simp only [Act.put, List.getElem_toArray, List.getElem_cons_succ, List.getElem_cons_zero, List.setIfInBounds_toArray, List.set_cons_zero, List.set_cons_succ]
        refine wpAnyH_take (i := 13) (v := ?v14) rfl (by kernel_rfl) (by kernel_rfl) (by kernel_rfl) (fun _ _ _ h => h) (Or.inl ⟨by rfl, ?hy14⟩) (by assumption) ?_
        case hy14 =>
          intro w' hSw
          (try dsimp only at hSw)
          go_simp
          try (with_reducible rfl)
        try simp only [Act.put, List.getElem_toArray, List.getElem_cons_succ, List.getElem_cons_zero, List.setIfInBounds_toArray, List.set_cons_zero, List.set_cons_succ]
        refine wpAnyH_take (i := 14) (v := ?v15) rfl (by kernel_rfl) (by kernel_rfl) (by kernel_rfl) (fun _ _ _ h => h) (Or.inl ⟨by rfl, ?hy15⟩) (by assumption) ?_
        case hy15 =>
          intro w' hSw
          (try dsimp only at hSw)
          have q1 := HC0.out w' hSw
          go_simp
          try (with_reducible rfl)
        try simp only [Act.put, List.getElem_toArray, List.getElem_cons_succ, List.getElem_cons_zero, List.setIfInBounds_toArray, List.set_cons_zero, List.set_cons_succ]
        refine wpAnyH_take (i := 15) (v := ?v16) rfl (by kernel_rfl) (by kernel_rfl) (by kernel_rfl) (fun _ _ _ h => h) (Or.inl ⟨by rfl, ?hy16⟩) (by assumption) ?_
        case hy16 =>
          intro w' hSw
          (try dsimp only at hSw)
          go_simp
          try (with_reducible rfl)
        try simp only [Act.put, List.getElem_toArray, List.getElem_cons_succ, List.getElem_cons_zero, List.setIfInBounds_toArray, List.set_cons_zero, List.set_cons_succ]
        refine wpAnyH_take (i := 16) (v := ?v17) rfl (by kernel_rfl) (by kernel_rfl) (by kernel_rfl) (fun _ _ _ h => h) (Or.inl ⟨by rfl, ?hy17⟩) (by assumption) ?_
        case hy17 =>
          intro w' hSw
          (try dsimp only at hSw)
          go_simp
          try (with_reducible rfl)
        try simp only [Act.put, List.getElem_toArray, List.getElem_cons_succ, List.getElem_cons_zero, List.setIfInBounds_toArray, List.set_cons_zero, List.set_cons_succ]
        refine wpAnyH_take (i := 18) (v := ?v18) rfl (by kernel_rfl) (by kernel_rfl) (by kernel_rfl) (fun _ _ _ h => h) (Or.inl ⟨by rfl, ?hy18⟩) (by assumption) ?_
        case hy18 =>
          intro w' hSw
          (try dsimp only at hSw)
          go_simp
          try (with_reducible rfl)
        try simp only [Act.put, List.getElem_toArray, List.getElem_cons_succ, List.getElem_cons_zero, List.setIfInBounds_toArray, List.set_cons_zero, List.set_cons_succ]
        refine wpAnyH_take (i := 20) (v := ?v19) rfl (by kernel_rfl) (by kernel_rfl) (by kernel_rfl) (fun _ _ _ h => h) (Or.inl ⟨by rfl, ?hy19⟩) (by assumption) ?_
        case hy19 =>
          intro w' hSw
          (try dsimp only at hSw)
          have q1 := (box_cells hSw HSB.out).1
          go_simp
          try (with_reducible rfl)
        try simp only [Act.put, List.getElem_toArray, List.getElem_cons_succ, List.getElem_cons_zero, List.setIfInBounds_toArray, List.set_cons_zero, List.set_cons_succ]
        refine wpAnyH_ready (rs := [17]) (by kernel_rfl) (by simp) ?_
        refine AllReadyH.cons rfl (fun K hK => ?_) AllReadyH.nil
        go_simp
        go_at_call 58
        refine (CFR.out w10).mono ?_
        rintro e w11 ⟨rfl, rfl⟩
        try go_simp
        refine hK.out _ _ ?hS20 (fun hHeld2 => ?_)
        case hS20 => first | with_reducible exact HB9r.out | exact HB9r.out.drew | with_reducible exact HB10.out | with_reducible exact HB11.out | with_reducible exact HB12.out | with_reducible exact HB13.out
        clear hK K hHeld
        have hHeld := hHeld2
        clear hHeld2
        try simp only [Act.put, List.getElem_toArray, List.getElem_cons_succ, List.getElem_cons_zero, List.setIfInBounds_toArray, List.set_cons_zero, List.set_cons_succ]
        refine wpAnyH_ready (rs := [19]) (by kernel_rfl) (by simp) ?_
        refine AllReadyH.cons rfl (fun K hK => ?_) AllReadyH.nil
        go_simp
        go_at_call 57
        refine (KC.out w10 (bthen HBW9.out HB10.out)).mono ?_
        rintro e w12 ⟨A12, c12, rfl, ho, hb6⟩
        have HR12 := Lib.hid (ho.row eSmp)
        have HB12 := Lib.hid (bthen HB10.out hb6)
        clear ho hb6
        try go_simp
        refine hK.out _ _ ?hS21 (fun hHeld2 => ?_)
        case hS21 => first | with_reducible exact HB9r.out | exact HB9r.out.drew | with_reducible exact HB10.out | with_reducible exact HB11.out | with_reducible exact HB12.out | with_reducible exact HB13.out
        clear hK K hHeld
        have hHeld := hHeld2
        clear hHeld2
        try simp only [Act.put, List.getElem_toArray, List.getElem_cons_succ, List.getElem_cons_zero, List.setIfInBounds_toArray, List.set_cons_zero, List.set_cons_succ]
        refine wpAnyH_ready (rs := [21]) (by kernel_rfl) (by simp) ?_
        refine AllReadyH.cons rfl (fun K hK => ?_) AllReadyH.nil
        go_simp
        go_at_call 56
        refine (KI.out _ w12 HR12.out).mono ?_
        rintro e w13 ⟨rfl, hb6⟩
        have HB13 := Lib.hid (bthen HB12.out hb6)
        clear hb6
        try go_simp
        refine hK.out _ _ ?hS22 (fun hHeld2 => ?_)
        case hS22 => first | with_reducible exact HB9r.out | exact HB9r.out.drew | with_reducible exact HB10.out | with_reducible exact HB11.out | with_reducible exact HB12.out | with_reducible exact HB13.out
        clear hK K hHeld
        have hHeld := hHeld2
        clear hHeld2
        try simp only [Act.put, List.getElem_toArray, List.getElem_cons_succ, List.getElem_cons_zero, List.setIfInBounds_toArray, List.set_cons_zero, List.set_cons_succ]
        refine wpAnyH_take (i := 22) (v := ?v23) rfl (by kernel_rfl) (by kernel_rfl) (by kernel_rfl) (fun _ _ _ h => h) (Or.inl ⟨by rfl, ?hy23⟩) (by assumption) ?_
        case hy23 =>
          intro w' hSw
          (try dsimp only at hSw)
          go_simp
          try (with_reducible rfl)
        try simp only [Act.put, List.getElem_toArray, List.getElem_cons_succ, List.getElem_cons_zero, List.setIfInBounds_toArray, List.set_cons_zero, List.set_cons_succ]
        refine wpAnyH_take (i := 23) (v := ?v24) rfl (by kernel_rfl) (by kernel_rfl) (by kernel_rfl) (fun _ _ _ h => h) (Or.inl ⟨by rfl, ?hy24⟩) (by assumption) ?_
        case hy24 =>
          intro w' hSw
          (try dsimp only at hSw)
          go_simp
          try (with_reducible rfl)
        try simp only [Act.put, List.getElem_toArray, List.getElem_cons_succ, List.getElem_cons_zero, List.setIfInBounds_toArray, List.set_cons_zero, List.set_cons_succ]
        refine wpAnyH_done (by kernel_rfl) ?_ _
        have HQ13 := Lib.hid (box_below (w := w) HQ.out (bthen HB9.out HB13.out))
        obtain ⟨g1, g2, g3⟩ := box_cells (Below.refl _ _) HQ13.out
        obtain ⟨g4, g5, g6⟩ := box_cells HB13.out HSB.out
        go_wp2_with (first
          | (go_at_call 59
             refine (CM.out w13).mono ?_
             rintro e w14 ⟨rfl, hb14⟩
             have HQ14 := Lib.hid (box_below (w := w) HQ13.out hb14)
             obtain ⟨g7, g8, g9⟩ := box_cells (Below.refl _ _) HQ14.out
             have HB14 := Lib.hid (bthen HB.out (bthen HB9.out (bthen HB13.out hb14)))
             clear hb14))
        go_roundg (ks.length - (k + 1))
        case measure => omega
        case rel => exact ⟨k + 1, ⟨m0, m1, m2, m3, m4⟩, HK.out, Nat.le_refl _, by go_num, Lib.hid HTK.out.symm, HMO, ((((HB14.out.setCell (Nat.le_refl _) _).setCell (Nat.le_refl _) _).setCell (Nat.le_refl _) _).setCell (Nat.le_refl _) _).setCell (Nat.le_refl _) _, setCell_block (setCell_block (setCell_block (setCell_block (setCell_block HQ14.out))))⟩
    · obtain rfl : k = ks.length := by omega
      have hse := HSE.out
      rw [List.take_length] at hse
      have CTT := Lib.hid (fun U (hU : Below w.heap.size w U) => show Calls Tryz.prog 25 #[.pointer (some ⟨C, 0, none⟩), .int .i64 til, .int .i64 wd] U fun e w' => e = .returned (.agg #[.int .i64 s0, .int .i64 s1, .int .i64 s2, .int .i64 s3, .int .i64 s4]) ∧ Below U.heap.size U w' from by
        have h := HTO.out U hU
        rw [← hse] at h
        exact h)
      have HBr := Lib.hid (Below.refl wr.heap.size wr)
      clear hse hlt
      as_aux_lemma =>
        go_upto_region 15 with fail
        refine wp_region_held_drew (S := (fun U : World => Below wr.heap.size wr U)) (by kernel_rfl) ?hS25 (fun hHeld => ?_)
        case hS25 => first | with_reducible exact HBr.out | exact HBr.out.drew | with_reducible exact HB20.out
        refine wpAnyH_take (i := 0) (v := ?v26) rfl (by kernel_rfl) (by kernel_rfl) (by kernel_rfl) (fun _ _ _ h => h) (Or.inl ⟨by rfl, ?hy26⟩) (by assumption) ?_
        case hy26 =>
          intro w' hSw
          (try dsimp only at hSw)
          go_simp
          try (with_reducible rfl)
        try simp only [Act.put, List.getElem_toArray, List.getElem_cons_succ, List.getElem_cons_zero, List.setIfInBounds_toArray, List.set_cons_zero, List.set_cons_succ]
        refine wpAnyH_take (i := 1) (v := ?v27) rfl (by kernel_rfl) (by kernel_rfl) (by kernel_rfl) (fun _ _ _ h => h) (Or.inl ⟨by rfl, ?hy27⟩) (by assumption) ?_
        case hy27 =>
          intro w' hSw
          (try dsimp only at hSw)
          go_simp
          try (with_reducible rfl)
        try simp only [Act.put, List.getElem_toArray, List.getElem_cons_succ, List.getElem_cons_zero, List.setIfInBounds_toArray, List.set_cons_zero, List.set_cons_succ]
        refine wpAnyH_take (i := 2) (v := ?v28) rfl (by kernel_rfl) (by kernel_rfl) (by kernel_rfl) (fun _ _ _ h => h) (Or.inl ⟨by rfl, ?hy28⟩) (by assumption) ?_
        case hy28 =>
          intro w' hSw
          (try dsimp only at hSw)
          go_simp
          try (with_reducible rfl)
        try simp only [Act.put, List.getElem_toArray, List.getElem_cons_succ, List.getElem_cons_zero, List.setIfInBounds_toArray, List.set_cons_zero, List.set_cons_succ]
        refine wpAnyH_take (i := 4) (v := ?v29) rfl (by kernel_rfl) (by kernel_rfl) (by kernel_rfl) (fun _ _ _ h => h) (Or.inl ⟨by rfl, ?hy29⟩) (by assumption) ?_
        case hy29 =>
          intro w' hSw
          (try dsimp only at hSw)
          have q1 := (box_cells hSw HQ.out).1
          go_simp
          try (with_reducible rfl)
        try simp only [Act.put, List.getElem_toArray, List.getElem_cons_succ, List.getElem_cons_zero, List.setIfInBounds_toArray, List.set_cons_zero, List.set_cons_succ]
        refine wpAnyH_ready (rs := [3]) (by kernel_rfl) (by simp) ?_
        refine AllReadyH.cons rfl (fun K hK => ?_) AllReadyH.nil
        go_simp
        go_at_call 25
        refine calls_named ?_
        intro W5 hW5
        have hb5 : Below wr.heap.size wr W5 := by rw [hW5]; first | exact Below.refl _ _ | exact (Below.refl _ _).drew
        clear hW5
        refine (CTT.out W5 (bthen HBwr.out hb5)).mono ?_
        rintro e w20 ⟨rfl, hb6⟩
        have HB20 := Lib.hid (bthen hb5 hb6)
        clear hb5 hb6
        try go_simp
        refine hK.out _ _ ?hS30 (fun hHeld2 => ?_)
        case hS30 => first | with_reducible exact HBr.out | exact HBr.out.drew | with_reducible exact HB20.out
        clear hK K hHeld
        have hHeld := hHeld2
        clear hHeld2
        try simp only [Act.put, List.getElem_toArray, List.getElem_cons_succ, List.getElem_cons_zero, List.setIfInBounds_toArray, List.set_cons_zero, List.set_cons_succ]
        refine wpAnyH_take (i := 5) (v := ?v31) rfl (by kernel_rfl) (by kernel_rfl) (by kernel_rfl) (fun _ _ _ h => h) (Or.inl ⟨by rfl, ?hy31⟩) (by assumption) ?_
        case hy31 =>
          intro w' hSw
          (try dsimp only at hSw)
          go_simp
          try (with_reducible rfl)
        try simp only [Act.put, List.getElem_toArray, List.getElem_cons_succ, List.getElem_cons_zero, List.setIfInBounds_toArray, List.set_cons_zero, List.set_cons_succ]
        refine wpAnyH_take (i := 6) (v := ?v32) rfl (by kernel_rfl) (by kernel_rfl) (by kernel_rfl) (fun _ _ _ h => h) (Or.inl ⟨by rfl, ?hy32⟩) (by assumption) ?_
        case hy32 =>
          intro w' hSw
          (try dsimp only at hSw)
          go_simp
          try (with_reducible rfl)
        try simp only [Act.put, List.getElem_toArray, List.getElem_cons_succ, List.getElem_cons_zero, List.setIfInBounds_toArray, List.set_cons_zero, List.set_cons_succ]
        refine wpAnyH_done (by kernel_rfl) ?_ _
        go_wp2_with fail
        go_ret
        exact ⟨rfl, bthen HBwr.out HB20.out⟩
end

section
set_option linter.unusedSimpArgs false
set_option linter.unusedVariables false
open Go.RowKit Go.Lib Go.Sort

theorem findI_get {l : List It} {k : Ky} (h : hasI l k = true) : findI l k = some (getL l k) := by
  obtain ⟨hal, hg⟩ := getL_has h
  rw [hg]
  have hk : l[atI l k].key = k := by
    unfold hasI at h
    rw [dif_pos hal] at h
    simpa using h
  refine findI_at hal ?_ hk
  unfold findI
  rw [List.find?_eq_none]
  intro x hx
  obtain ⟨i, hi, rfl⟩ := List.getElem_of_mem hx
  rw [List.length_take] at hi
  have h1 := atI_lt (l := l) (k := k) (i := i) (by omega) (by omega)
  rw [List.getElem_take]
  simp only [decide_eq_true_eq]
  intro e
  rw [e, ltK_irrefl] at h1
  cases h1
theorem findI_none {l : List It} (hs : (keysI l).Pairwise (fun a b => ltK a b = true)) {k : Ky} (h : hasI l k = false) : findI l k = none := by
  unfold findI
  rw [List.find?_eq_none]
  intro x hx
  simp only [decide_eq_true_eq]
  rintro rfl
  have : hasI l x.key = true := (hasI_iff hs _).2 (List.mem_map.2 ⟨x, hx, rfl⟩)
  rw [h] at this
  cases this
theorem totSt_congr {f g : Ky → StD} : ∀ (ks : List Ky), (∀ k ∈ ks, f k = g k) → totSt f ks = totSt g ks := by
  intro ks
  unfold totSt
  generalize st0 = s
  induction ks generalizing s with
  | nil => intro _; rfl
  | cons a l ih =>
    intro h
    simp only [List.foldl_cons]
    rw [h a (by simp)]
    exact ih _ (fun k hk => h k (by simp [hk]))
/-- The nodes of two parts' entries. -/
def nd2 (es1 es2 : List (KO × NE)) (m : List It) (x : En) : Nd := if x ∈ frL es1 m then ndF es1 x else ndF es2 x

theorem csame_any (S1 S2 : Nat → Prop) (C : Nat) (v : Value) (A1 A2 : Option Addr) (c1 c2 : Nat) (m m' : List It) (es1 es2 : List (KO × NE)) (rs rh : Nat) (til wd : Int) (w : World) (hc : CutIn w C 7 (sortEn (frL es1 m ++ frL es2 m')))
    (f1 : FzAt S1 w es1 rs rh (.slice A1 m.length c1) m) (f2 : FzAt S2 w es2 rs rh (.slice A2 m'.length c2) m') (t1 : Tells18 (ab es1) (m.map absI)) (t2 : Tells18 (ab es2) (m'.map absI)) (a1 : AllI (ab es1)) (a2 : AllI (ab es2))
    (hp : RowIn 1 partIC w v [(A1, c1, m), (A2, c2, m')]) (l1 : m.length ≤ 100) (l2 : m'.length ≤ 100) (o1 : ∀ x ∈ m, NdOk rs rh x.nd ∧ x.key.ok) (o2 : ∀ x ∈ m', NdOk rs rh x.nd ∧ x.key.ok) (hrs : rs ≤ 256) (hrh : rh ≤ 64) (ht : I64 til) (hw : I64 wd) :
    Calls Tryz.prog 16 #[.pointer (some ⟨C, 0, none⟩), v, .int .i64 til, .int .i64 wd] w fun e w' => e = .returned (.bool true) ∧ Below w.heap.size w w' := by
  have hks : ∀ k, k ∈ risL (keysI m ++ keysI m') → hasI m k = true ∨ hasI m' k = true := fun k hk => by
    rw [mem_risL, List.mem_append] at hk
    exact hk.imp (hasI_iff t1.sortedI k).2 (hasI_iff t2.sortedI k).2
  have hcl : (sortEn (frL es1 m ++ frL es2 m')).length ≤ 1000 := by rw [sortEn_len, List.length_append, frL_len, frL_len]; omega
  have hkeys : risL ((sortEn (frL es1 m ++ frL es2 m')).map (·.1)) = risL (keysI m ++ keysI m') := by
    apply risL_same
    intro p
    rw [keys_sortE, List.map_append, frL_keys, frL_keys]
  have hnodes : NodesOf w (sortEn (frL es1 m ++ frL es2 m')) (nd2 es1 es2 m) rs rh := fun x hx => by
    have hx := (mem_sortE _ _).1 hx
    unfold nd2
    by_cases h : x ∈ frL es1 m
    · rw [if_pos h]; exact f1.nodes x h
    · rw [if_neg h]
      rcases List.mem_append.1 hx with h' | h'
      · exact absurd h' h
      · exact f2.nodes x h'
  have hsm : SmpOk (sortEn (frL es1 m ++ frL es2 m')) (nd2 es1 es2 m) := fun x hx => by
    unfold nd2
    split
    · exact smpOk_fr a1 [x] x (by simp)
    · exact smpOk_fr a2 [x] x (by simp)
  have hfind : ∀ k, hasI m k = true ∨ hasI m' k = true → ∃ n x nd, findE (sortEn (frL es1 m ++ frL es2 m')) k = some n ∧ n = (if hasI m k = true then blkOf es1 k else blkOf es2 k) ∧ x = (if hasI m k = true then getL m k else getL m' k) ∧ findI (m ++ m') k = some x ∧
      nd = nd2 es1 es2 m (k, n) ∧ sameN nd x.nd ∧ (∃ fp, NodeIn w n nd rs rh fp) ∧ ∃ P, LoadIn P w x := fun k hk => by
    rw [findE_sort, findE_append, frL_find t1, frL_find t2]
    by_cases h : hasI m k = true
    · have e1 : (k, blkOf es1 k) ∈ frL es1 m := findE_mem (by rw [frL_find t1, if_pos h])
      refine ⟨blkOf es1 k, getL m k, _, by rw [if_pos h]; rfl, by rw [if_pos h], by rw [if_pos h], ?_, rfl, ?_, ?_, _, getL_load f1.2.2 k⟩
      · unfold findI
        rw [List.find?_append]
        have := findI_get h
        unfold findI at this
        rw [this]
        rfl
      · unfold nd2; rw [if_pos e1]; exact ndF_same t1 h _
      · unfold nd2; rw [if_pos e1]; exact f1.nodes _ e1
    · have h' : hasI m' k = true := hk.resolve_left h
      have hf : hasI m k = false := by simpa using h
      have e2 : (k, blkOf es2 k) ∈ frL es2 m' := findE_mem (by rw [frL_find t2, if_pos h'])
      have e1 : (k, blkOf es2 k) ∉ frL es1 m := fun hm => by
        have : k ∈ keysI m := by rw [← frL_keys es1 m]; exact List.mem_map.2 ⟨_, hm, rfl⟩
        rw [(hasI_iff t1.sortedI k).2 this] at hf
        cases hf
      refine ⟨blkOf es2 k, getL m' k, _, by rw [if_neg h, if_pos h']; rfl, by rw [if_neg h], by rw [if_neg h], ?_, rfl, ?_, ?_, _, getL_load f2.2.2 k⟩
      · rw [findI_append_none (findI_none t1.sortedI hf)]
        exact findI_get h'
      · unfold nd2; rw [if_neg e1]; exact ndF_same t2 h' _
      · unfold nd2; rw [if_neg e1]; exact f2.nodes _ e2
  have hsmp : ∀ k, hasI m k = true ∨ hasI m' k = true → cutSt (sortEn (frL es1 m ++ frL es2 m')) (nd2 es1 es2 m) til wd k = statW (if hasI m k = true then getL m k else getL m' k).nd.smp til wd := fun k hk => by
    obtain ⟨n, x, nd, h1, _, h3, _, h5, h6, _⟩ := hfind k hk
    unfold cutSt
    rw [h1]
    simp only
    rw [← h5, h6.1, h3]
  have hcg := fun k U (hU : Below w.heap.size w U) => cutGet_any C 7 _ k U (hc.below hU) (ris_sort _) hcl
  have hst := fun k U (hU : Below w.heap.size w U) => cutStat_any C 7 _ (nd2 es1 es2 m) rs rh k til wd U (hc.below hU) (ris_sort _) hcl (hnodes.below hU) hsm hrs ht hw
  have hto := fun U (hU : Below w.heap.size w U) => cutTotal_any C 7 _ (nd2 es1 es2 m) rs rh til wd U (hc.below hU) (ris_sort _) hcl (hnodes.below hU) hsm hrs ht hw
  rw [hkeys, totSt_congr (risL (keysI m ++ keysI m')) (fun k hk => hsmp k (hks k hk))] at hto
  have hfm : (([(A1, c1, m), (A2, c2, m')] : List PartI).flatMap fun p => keysI p.2.2) = keysI m ++ keysI m' := by simp
  have hfi : (([(A1, c1, m), (A2, c2, m')] : List PartI).flatMap fun p => p.2.2) = m ++ m' := by simp
  have hkl : (keysI m ++ keysI m').length ≤ 1000 := by simp [keysI]; omega
  have hprow : ∀ U, Below w.heap.size w U → ∀ p ∈ ([(A1, c1, m), (A2, c2, m')] : List PartI), RowIn 12 itC U (.slice p.1 p.2.2.length p.2.1) p.2.2 := fun U hU p hp => by
    rcases List.mem_cons.1 hp with rfl | hp
    · exact f1.2.1.1.below hU
    · obtain rfl := List.mem_singleton.1 hp
      exact f2.2.1.1.below hU
  refine csame_core C v (risL (keysI m ++ keysI m')) (fun k => if hasI m k = true then blkOf es1 k else blkOf es2 k) (fun k => if hasI m k = true then getL m k else getL m' k) til wd w ?_ ?_ ?_ ?_ ?_ ?_ ?_ ?_ (Nat.le_trans (len_risL _) hkl) ht hw
  · refine Lib.hid (fun U hU => ?_)
    have := cutKeys_any C 7 _ U (hc.below hU) hcl
    rw [hkeys] at this
    exact this
  · refine Lib.hid ?_
    have := r19keys_any v [(A1, c1, m), (A2, c2, m')] w hp (hprow w (Below.refl _ _)) (fun p hp => by
      rcases List.mem_cons.1 hp with rfl | hp
      · exact fun x hx => (o1 x hx).2
      · obtain rfl := List.mem_singleton.1 hp
        exact fun x hx => (o2 x hx).2) (by rw [hfm]; exact hkl) (by simp)
    rw [hfm] at this
    exact this
  · refine Lib.hid (fun k hk U hU => ?_)
    obtain ⟨n, x, nd, h1, h2, _⟩ := hfind k (hks k hk)
    have := hcg k U hU
    rw [h1] at this
    rw [← h2]
    exact this
  · refine Lib.hid (fun k hk U hU => ?_)
    obtain ⟨n, x, nd, _, _, h3, h4, _⟩ := hfind k (hks k hk)
    rw [← h3]
    exact refFirst_any v [(A1, c1, m), (A2, c2, m')] k x U (hp.below hU) (hprow U hU) (by simp) (fun p hp => by
      rcases List.mem_cons.1 hp with rfl | hp
      · simp only; omega
      · obtain rfl := List.mem_singleton.1 hp
        simp only; omega) (by rw [hfi]; exact h4)
  · refine Lib.hid (fun k hk U hU => ?_)
    obtain ⟨n, x, nd, h1, _⟩ := hfind k (hks k hk)
    have := hst k U hU
    rw [h1, hsmp k (hks k hk)] at this
    exact this
  · refine Lib.hid (fun k hk U hU => ?_)
    obtain ⟨n, x, nd, _, h2, h3, _, _, h6, ⟨fp, h7⟩, P, h8⟩ := hfind k (hks k hk)
    rw [← h2, ← h3]
    exact nhas19_any P n nd rs rh fp x U (h7.below hU) hrs hrh (h8.below hU) h6
  · refine Lib.hid (fun k hk => ?_)
    obtain ⟨n, x, nd, _, _, h3, _, h5, h6, ⟨fp, h7⟩, P, h8⟩ := hfind k (hks k hk)
    rw [← h3]
    refine ⟨h8.1.1, ?_, ?_⟩
    · rw [← h6.1]
      have := h7.ok.len
      omega
    · rw [← h6.1, h5]
      unfold nd2
      split
      · exact smpOk_fr a1 [_] _ (List.mem_singleton.2 rfl)
      · exact smpOk_fr a2 [_] _ (List.mem_singleton.2 rfl)
  · exact Lib.hid hto
end

section
set_option linter.unusedSimpArgs false
set_option linter.unusedVariables false
open Go.RowKit Go.Lib Go.Sort

theorem SAt.keptS {w w' : World} {T M : Nat} {c : Cfg} {ver : Nat} {es : List (KO × NE)} {rs rh : Nat} (h : SAt w T M c ver es rs rh) (hT : w'.heap[T]? = w.heap[T]?) (hM : w'.heap[M]? = w.heap[M]?) (hf : ∀ p ∈ es, ∀ r ∈ p.2.2.2, w'.heap[r]? = w.heap[r]?) : SAt w' T M c ver es rs rh :=
  ⟨hT.trans h.cell, h.map.block hM, fun p hp => (h.node p hp).kept (hf p hp), h.pair, h.off, h.ne⟩
theorem SAt.belowS {w w' : World} {T M : Nat} {c : Cfg} {ver : Nat} {es : List (KO × NE)} {rs rh : Nat} (h : SAt w T M c ver es rs rh) (hb : Below w.heap.size w w') : SAt w' T M c ver es rs rh :=
  h.keptS (hb.block T h.ltT) (hb.block M h.map.lt) (fun p hp r hr => hb.block r ((h.node p hp).lt r hr))
theorem grown_le {n N ver : Nat} {S : List (KO × Nd)} (h : Grown n ver S) (hn : n ≤ N) : Grown N ver S := ⟨Nat.le_trans h.len hn, fun p hp => Nat.le_trans (h.vers p hp) hn⟩

structure Two (wF W : World) (c : Cfg) (rs rh : Nat) (T M T' M' n ver ver' : Nat) (es es' : List (KO × NE)) : Prop where
  s : SAt W T M c ver es rs rh
  t : SAt W T' M' c ver' es' rs rh
  sS : ∀ r ∈ sfp T M es, r = T ∨ r = M ∨ wF.heap.size ≤ r
  sT : ∀ r ∈ sfp T' M' es', r = T' ∨ r = M' ∨ wF.heap.size ≤ r
  off : ∀ r ∈ sfp T M es, r ∉ sfp T' M' es'
  oS : ∀ p ∈ es, ∀ r ∈ p.2.2.2, r ∉ sfp T' M' es'
  oT : ∀ p ∈ es', ∀ r ∈ p.2.2.2, r ∉ sfp T M es
  keep : ∀ b, b < wF.heap.size → b ≠ T → b ≠ M → b ≠ T' → b ≠ M' → W.heap[b]? = wF.heap[b]?
  size : wF.heap.size ≤ W.heap.size
  gS : Grown n ver (ab es)
  gT : Grown n ver' (ab es')
  vS : ver ≤ 1000 * n
  vT : ver' ≤ 1000 * n
theorem Two.swap {wF W : World} {c : Cfg} {rs rh T M T' M' n ver ver' : Nat} {es es' : List (KO × NE)} (h : Two wF W c rs rh T M T' M' n ver ver' es es') : Two wF W c rs rh T' M' T M n ver' ver es' es :=
  ⟨h.t, h.s, h.sT, h.sS, fun r h1 h2 => h.off r h2 h1, h.oT, h.oS, fun b h1 h2 h3 h4 h5 => h.keep b h1 h4 h5 h2 h3, h.size, h.gT, h.gS, h.vT, h.vS⟩
theorem Two.below {wF W W' : World} {c : Cfg} {rs rh T M T' M' n ver ver' : Nat} {es es' : List (KO × NE)} (h : Two wF W c rs rh T M T' M' n ver ver' es es') (hb : Below W.heap.size W W') : Two wF W' c rs rh T M T' M' n ver ver' es es' :=
  ⟨h.s.belowS hb, h.t.belowS hb, h.sS, h.sT, h.off, h.oS, h.oT, fun b h1 h2 h3 h4 h5 => (hb.block b (Nat.lt_of_lt_of_le h1 h.size)).trans (h.keep b h1 h2 h3 h4 h5), Nat.le_trans h.size hb.size, h.gS, h.gT, h.vS, h.vT⟩
theorem two_s {wF W : World} {c : Cfg} {rs rh T M T' M' n ver ver' : Nat} {es es' : List (KO × NE)} (h : Two wF W c rs rh T M T' M' n ver ver' es es') (hc : CfgOk c rs rh) (hn : n ≤ 100) (k : KO) (a : Act17) :
    Calls Tryz.prog 17 #[.pointer (some ⟨T, 0, none⟩), .agg (act18C k.1 a).toArray] W fun e w1 => ∃ ver2 es2, e = .returned (.tuple #[]) ∧ Two wF w1 c rs rh T M T' M' (n + 1) ver2 ver' es2 es' ∧ Upd W w1 (sfp T M es) (sfp T M es2) := by
  have hr := hc.room
  refine (cdo_all T M c ver es rs rh k a W h.s (sok_of (W := W) (T := T) (M := M) h.gS h.vS hc hn) (smp_small h.s hr.r2)).mono ?_
  rintro e w1 ⟨es2, he, h1, h2, hu, ho⟩
  have hTl : ∀ r ∈ sfp T' M' es', r < W.heap.size := h.t.sfpLt
  have hnew : ∀ r ∈ sfp T M es2, r ∈ sfp T M es ∨ W.heap.size ≤ r := hu.fresh
  refine ⟨_, es2, he, ⟨h1, ?_, ?_, h.sT, ?_, ?_, ?_, ?_, Nat.le_trans h.size hu.size, ?_, h.gT.more, ?_, by have := h.vT; omega⟩, hu⟩
  · refine h.t.keptS (hu.block _ h.t.ltT (fun hm => h.off _ hm (by simp [sfp]))) (hu.block _ h.t.map.lt (fun hm => h.off _ hm (by simp [sfp]))) (fun p hp r hr => hu.block r ((h.t.node p hp).lt r hr) (fun hm => h.oT p hp r hr hm))
  · intro r hr
    rcases hnew r hr with h3 | h3
    · exact h.sS r h3
    · exact Or.inr (Or.inr (Nat.le_trans h.size h3))
  · intro r hr hm
    rcases hnew r hr with h3 | h3
    · exact h.off r h3 hm
    · have := hTl r hm; omega
  · intro p hp r hr hm
    rcases ho p hp r hr with h3 | ⟨q, hq, h3⟩
    · have := hTl r hm; omega
    · exact h.oS q hq r h3 hm
  · intro p hp r hr hm
    rcases hnew r hm with h3 | h3
    · exact h.oT p hp r hr h3
    · have := (h.t.node p hp).lt r hr; omega
  · intro b h3 h4 h5 h6 h7
    refine (hu.block b (Nat.lt_of_lt_of_le h3 h.size) (fun hm => ?_)).trans (h.keep b h3 h4 h5 h6 h7)
    rcases h.sS b hm with h8 | h8 | h8
    · exact h4 h8
    · exact h5 h8
    · omega
  · rw [h2]; exact grown_act h.gS c rs rh k a
  · have hnd : ((ab es).map (·.1)).Nodup := by have := h.s.nodup; simpa [ab, List.map_map, Function.comp_def] using this
    have hk : (risL (keysS (ab es))).length ≤ n := by rw [risL_length (keysS_nodup hnd)]; unfold keysS; rw [List.length_map]; exact h.gS.len
    have := ver_act h.gS c rs rh k a hk
    have := h.vS
    omega

/-- What was frozen of two stripes, a cut of it, and the parts. -/
structure Pre (w W : World) (c : Cfg) (rs rh : Nat) (T M T' M' ver ver' C : Nat) (es es' : List (KO × NE)) (v : Value) (A1 A2 : Option Addr) (c1 c2 : Nat) (m m' : List It) (B : Nat) : Prop where
  s : SAt W T M c ver (frzE es (risL (kyN es))) rs rh
  t : SAt W T' M' c ver' (frzE es' (risL (kyN es'))) rs rh
  fs : FzAt (fun b => b ≠ T ∧ b ≠ M ∧ b ≠ T' ∧ b ≠ M') W es rs rh (.slice A1 m.length c1) m
  ft : FzAt (fun b => b ≠ T ∧ b ≠ M ∧ b ≠ T' ∧ b ≠ M') W es' rs rh (.slice A2 m'.length c2) m'
  cut : CutAt B W C 7 (sortEn (frL es m ++ frL es' m'))
  row : RowG (fun b => B ≤ b) 1 partIC W v [(A1, c1, m), (A2, c2, m')]
  below : Below w.heap.size w W
  lo : T < B ∧ M < B ∧ T' < B ∧ M' < B
  hi : w.heap.size ≤ T ∧ w.heap.size ≤ M ∧ w.heap.size ≤ T' ∧ w.heap.size ≤ M'
  ne : T ≠ T' ∧ T ≠ M' ∧ M ≠ T' ∧ M ≠ M'
  oS : ∀ p ∈ frzE es (risL (kyN es)), ∀ r ∈ p.2.2.2, r ≠ T' ∧ r ≠ M'
  oT : ∀ p ∈ frzE es' (risL (kyN es')), ∀ r ∈ p.2.2.2, r ≠ T ∧ r ≠ M
theorem Pre.next {w W W' : World} {c : Cfg} {rs rh T M T' M' ver ver' C : Nat} {es es' : List (KO × NE)} {v : Value} {A1 A2 : Option Addr} {c1 c2 : Nat} {m m' : List It} {B : Nat} (h : Pre w W c rs rh T M T' M' ver ver' C es es' v A1 A2 c1 c2 m m' B) (hb : Below W.heap.size W W') : Pre w W' c rs rh T M T' M' ver ver' C es es' v A1 A2 c1 c2 m m' B :=
  ⟨h.s.belowS hb, h.t.belowS hb, h.fs.below hb, h.ft.below hb, h.cut.below hb, h.row.below hb, bthen h.below hb, h.lo, h.hi, h.ne, h.oS, h.oT⟩
theorem Pre.two {w W : World} {c : Cfg} {rs rh T M T' M' n ver ver' C : Nat} {es es' : List (KO × NE)} {v : Value} {A1 A2 : Option Addr} {c1 c2 : Nat} {m m' : List It} {B : Nat} (h : Pre w W c rs rh T M T' M' ver ver' C es es' v A1 A2 c1 c2 m m' B)
    (g1 : Grown n ver (ab (frzE es (risL (kyN es))))) (g2 : Grown n ver' (ab (frzE es' (risL (kyN es'))))) (v1 : ver ≤ 1000 * n) (v2 : ver' ≤ 1000 * n) :
    Two W W c rs rh T M T' M' n ver ver' (frzE es (risL (kyN es))) (frzE es' (risL (kyN es'))) := by
  have a1 := sfp_all (T := T) (M := M) (frz_all (es := es))
  have a2 := sfp_all (T := T') (M := M') (frz_all (es := es'))
  obtain ⟨n1, n2, n3, n4⟩ := h.ne
  refine ⟨h.s, h.t, fun r hr => (a1 r hr).imp id Or.inl, fun r hr => (a2 r hr).imp id Or.inl, fun r hr hm => ?_, fun p hp r hr hm => ?_, fun p hp r hr hm => ?_, fun _ _ _ _ _ _ => rfl, Nat.le_refl _, g1, g2, v1, v2⟩
  · rcases a1 r hr with rfl | rfl <;> rcases a2 _ hm with e | e
    · exact n1 e
    · exact n2 e
    · exact n3 e
    · exact n4 e
  · rcases a2 r hm with e | e
    · exact (h.oS p hp r hr).1 e
    · exact (h.oS p hp r hr).2 e
  · rcases a1 r hm with e | e
    · exact (h.oT p hp r hr).1 e
    · exact (h.oT p hp r hr).2 e
/-- What same needs, wherever the frozen is left as it was. -/
theorem Pre.kept {w W W' : World} {c : Cfg} {rs rh T M T' M' ver ver' C : Nat} {es es' : List (KO × NE)} {v : Value} {A1 A2 : Option Addr} {c1 c2 : Nat} {m m' : List It} {B : Nat} (h : Pre w W c rs rh T M T' M' ver ver' C es es' v A1 A2 c1 c2 m m' B)
    (hs : W.heap.size ≤ W'.heap.size) (hk : ∀ b, b < W.heap.size → b ≠ T → b ≠ M → b ≠ T' → b ≠ M' → W'.heap[b]? = W.heap[b]?) :
    CutIn W' C 7 (sortEn (frL es m ++ frL es' m')) ∧ FzAt (fun b => b ≠ T ∧ b ≠ M ∧ b ≠ T' ∧ b ≠ M') W' es rs rh (.slice A1 m.length c1) m ∧ FzAt (fun b => b ≠ T ∧ b ≠ M ∧ b ≠ T' ∧ b ≠ M') W' es' rs rh (.slice A2 m'.length c2) m' ∧ RowIn 1 partIC W' v [(A1, c1, m), (A2, c2, m')] := by
  obtain ⟨l1, l2, l3, l4⟩ := h.lo
  refine ⟨(h.cut.kept (fun r h1 h2 => hk r h2 (by omega) (by omega) (by omega) (by omega))).in_, h.fs.kept hs (fun b hb hlt => hk b hlt hb.1 hb.2.1 hb.2.2.1 hb.2.2.2), h.ft.kept hs (fun b hb hlt => hk b hlt hb.1 hb.2.1 hb.2.2.1 hb.2.2.2), (h.row.keepP hs (fun b hb hlt => hk b hlt (by omega) (by omega) (by omega) (by omega))).1⟩
end

section
set_option linter.unusedSimpArgs false
set_option linter.unusedVariables false
open Go.RowKit Go.Lib Go.Sort

theorem cut_two (ep : Int) (A1 A2 : Option Addr) (c1 c2 : Nat) (f1 f2 : List En) (w : World) (T : TypeId) (hr1 : RowIn 3 enC w (.slice A1 f1.length c1) f1) (hr2 : RowIn 3 enC w (.slice A2 f2.length c2) f2) (hf1 : ∀ x ∈ f1, FzN w x.2 true) (hf2 : ∀ x ∈ f2, FzN w x.2 true) (hl : f1.length + f2.length ≤ 40) :
    Calls Tryz.prog 13 #[.int .i64 ep, .slice (some ⟨w.heap.size, 0, none⟩) 2 2] (w.alloc (.cells #[.slice A1 f1.length c1, .slice A2 f2.length c2] T)) fun e w' => ∃ C, e = .returned (.pointer (some ⟨C, 0, none⟩)) ∧ CutAt w.heap.size w' C ep (sortEn (f1 ++ f2)) ∧ Below w.heap.size w w' := by
  have hb : Below w.heap.size w (w.alloc (.cells #[.slice A1 f1.length c1, .slice A2 f2.length c2] T)) := balloc (Below.refl _ _) _
  have e1 : ([(A1, c1, soE f1), (A2, c2, soE f2)] : List PartE).flatMap (fun p => keptE (fun _ => true) p.2.2) = f1 ++ f2 := by simp [kept_so]
  have hc := cutNew_any ep (.slice (some ⟨w.heap.size, 0, none⟩) 2 2) [(A1, c1, soE f1), (A2, c2, soE f2)] (fun _ => true) (w.alloc (.cells #[.slice A1 f1.length c1, .slice A2 f2.length c2] T))
    ⟨RowIn.lit2 (f := partC) w (A1, c1, soE f1) (A2, c2, soE f2) _ _ w.heap.size rfl (fun _ => rfl) (by simp [partC, soE_len]), fun p hp => by
      rcases List.mem_cons.1 hp with rfl | hp
      · have := (row_so hr1).below hb
        simp only [soE_len]
        exact this
      · obtain rfl := List.mem_singleton.1 hp
        have := (row_so hr2).below hb
        simp only [soE_len]
        exact this⟩
    (fun p hp x hx n hn => by
      rcases List.mem_cons.1 hp with rfl | hp
      · exact (so_fz hf1 x hx n hn).below hb
      · obtain rfl := List.mem_singleton.1 hp
        exact (so_fz hf2 x hx n hn).below hb)
    (by rw [e1, List.length_append]; exact hl) (by simp) (fun p hp => by
      rcases List.mem_cons.1 hp with rfl | hp
      · simp only [soE_len]; omega
      · obtain rfl := List.mem_singleton.1 hp
        simp only [soE_len]; omega)
  refine hc.mono ?_
  rintro e w' ⟨C, he, h1, h2⟩
  rw [e1] at h1
  exact ⟨C, he, h1.lower hb.size, bthen hb h2⟩

set_option maxRecDepth 100000 in
set_option maxHeartbeats 8000000 in
theorem ctells_main (c : Cfg) (rs rh : Nat) (v v' v'' : Value) (l l' l'' : List ActK) (til wd : Int) (w : World) (hv : RowIn 16 actKC w v l) (hv' : RowIn 16 actKC w v' l') (hv'' : RowIn 16 actKC w v'' l'') (hok : ∀ p ∈ l, p.1.ok) (hok' : ∀ p ∈ l', p.1.ok) (hok'' : ∀ p ∈ l'', p.1.ok)
    (hI : ∀ p ∈ l, I64 p.2.smp.1 ∧ I64 p.2.smp.2) (hI' : ∀ p ∈ l', I64 p.2.smp.1 ∧ I64 p.2.smp.2) (hl : l.length ≤ 20) (hl2 : l'.length ≤ 20) (hl3 : l''.length ≤ 20) (hc : CfgOk c rs rh) (ht : I64 til) (hw : I64 wd) :
    Calls Tryz.prog 3 #[cfgV c, v, v', v'', .int .i64 til, .int .i64 wd] w fun e w' => e = .returned (.bool true) ∧ Below w.heap.size w w' := by
  obtain ⟨A, cc, rfl⟩ := hv.form
  obtain ⟨A', cc', rfl⟩ := hv'.form
  obtain ⟨A'', cc'', rfl⟩ := hv''.form
  have HC := Lib.hid hc
  have HV := Lib.hid hv
  have HV' := Lib.hid hv'
  have HV'' := Lib.hid hv''
  have HOK := Lib.hid hok
  have HOK' := Lib.hid hok'
  have HOK'' := Lib.hid hok''
  have HII := Lib.hid hI
  have HII' := Lib.hid hI'
  have HL := Lib.hid hl
  have HL2 := Lib.hid hl2
  have HL3 := Lib.hid hl3
  have HT := Lib.hid (And.intro ht hw)
  have HR := Lib.hid hc.room
  have HRT : Hid (∀ W, Calls Tryz.prog 11 #[.agg #[.int .i64 c.st, .int .i64 c.sa, .int .i64 c.lo, .int .i64 c.hi]] W fun e w' => e = .returned (.bool true) ∧ Below W.heap.size W w') := Lib.hid (fun W => by have := ref17Right_any c W; rw [hc.cfg] at this; exact this)
  have q30 : ¬ (20 : Int) < (l.length : Int) := by omega
  have q31 : ¬ (20 : Int) < (l'.length : Int) := by omega
  have q32 : ¬ (20 : Int) < (l''.length : Int) := by omega
  unfold cfgV
  clear hv hv' hv'' hok hok' hok'' hl hl2 hl3 hc ht hw hI hI'
  go_enter Tryz.func3, Tryz.ntmps3
  go_upto_region 8 with (first
    | (go_at_call 10
       refine calls_named ?_
       intro W0 hW0
       have hb0 : Below w.heap.size w W0 := by rw [hW0]; exact balloc (Below.refl _ _) _
       have hxc : W0.heap[w.heap.size]? = some (.cells #[.int .i64 c.st, .int .i64 c.sa, .int .i64 c.lo, .int .i64 c.hi] 23 (0, 0)) := by rw [hW0]; exact heap_alloc_new _ _
       clear hW0
       refine (awake19_any W0).mono ?_
       rintro e w1 ⟨rfl, hb1⟩
       obtain ⟨a1, a1f, a1l⟩ := box_cells hb1 hxc
       have hx1 := (hb1.block _ (Array.getElem?_eq_some_iff.1 hxc).1).trans hxc
       have HB1 := Lib.hid (bthen hb0 hb1)
       have HX1 := Lib.hid hx1
       clear hb0 hxc hb1 hx1)
    | (go_at_call 11
       refine (HRT.out w1).mono ?_
       rintro e w2 ⟨rfl, hb2⟩
       obtain ⟨a2, a2f, a2l⟩ := box_cells hb2 HX1.out
       have HXC := Lib.hid ((hb2.block _ (Array.getElem?_eq_some_iff.1 HX1.out).1).trans HX1.out)
       have HB2 := Lib.hid (bthen HB1.out hb2)
       clear hb2)
    | (go_at_call 12
       have h9 := HPS
       with_reducible refine (made_19I c rs rh _ l' w3 (HV'.out.below HB3.out) HOK'.out (Nat.le_trans HL2.out (by omega)) HII'.out HC.out).mono ?_
       rintro e w4 ⟨T', M', ver', es', m', Am', cm', rfl, hp, hall⟩
       have HPT := Lib.hid hp
       have HALT := Lib.hid hall
       have HB4 := Lib.hid (bthen HB3.out hp.base)
       clear hp hall h9)
    | (go_at_call 12
       with_reducible refine (made_19I c rs rh _ l w2 (HV.out.below HB2.out) HOK.out (Nat.le_trans HL.out (by omega)) HII.out HC.out).mono ?_
       rintro e w3 ⟨T, M, ver, es, m, Am, cm, rfl, hp, hall⟩
       have HPS := Lib.hid hp
       have HALS := Lib.hid hall
       have hb := bthen HB2.out hp.base
       obtain ⟨a3, a3f, a3l⟩ := box_cells hp.base HXC.out
       have HB3 := Lib.hid hb
       clear hp hall hb)
    | (go_at_call 14
       have h9 := HO5
       refine (play_freezeF HPT5.out (by have := HL2.out; omega) w4.heap.size HESt.out HITt.out).mono ?_
       rintro e w8 ⟨A8, c8, rfl, hown, hfz, hst, hgt, hu⟩
       have HSFt := Lib.hid (sfp_all (T := T') (M := M') (frz_all (es := es')))
       have hTa := HPT5.out.above
       have hw3 := HW3.out
       have HTlo := Lib.hid (show w3.heap.size ≤ T' ∧ w3.heap.size ≤ M' from ⟨by have := hTa T' (by simp [sfp]); omega, by have := hTa M' (by simp [sfp]); omega⟩)
       have HTl := Lib.hid (show T' < w5.heap.size ∧ M' < w5.heap.size from ⟨HPT5.out.at_.ltT, HPT5.out.at_.map.lt⟩)
       have HSs := Lib.hid (show T < w3.heap.size ∧ M < w3.heap.size from ⟨HPS.out.at_.ltT, HPS.out.at_.map.lt⟩)
       have HSlo := Lib.hid (show w2.heap.size ≤ T ∧ w2.heap.size ≤ M from ⟨HPS.out.above T (by simp [sfp]), HPS.out.above M (by simp [sfp])⟩)
       have hoff : ∀ r, r < w3.heap.size → r < w5.heap.size → w8.heap[r]? = w5.heap[r]? := fun r h1 h2 => hu.block r h2 (fun hm => by have := hTa r hm; omega)
       have HSS8 := Lib.hid (HS5.out.keptS (hoff _ HSs.out.1 HS5.out.ltT) (hoff _ HSs.out.2 HS5.out.map.lt) (fun p hp r hr => hoff r (HFS5.out p hp r hr) ((HS5.out.node p hp).lt r hr)))
       have HST8 := Lib.hid hst
       have HGT8 := Lib.hid hgt
       have HO8 := Lib.hid (hown.row eEn)
       have HO58 := Lib.hid (show RowIn 3 enC w8 (.slice A5 (frL es m).length c5) (frL es m) from (HO5.out.kept (fun r hr => by
         have h1 := (HO5.out.lt hr).1
         have h2 := (HO5.out.lt hr).2
         refine hu.block r h2 (fun hm => ?_)
         have := HPT.out.at_.sfpLt r hm
         omega)).row eEn)
       have HFS8 := Lib.hid ((HFZ.out.kept hu.size (fun b hb hlt => hoff b hb.1 hlt)).imp (S' := fun b => b ≠ T ∧ b ≠ M ∧ b ≠ T' ∧ b ≠ M') (fun b hb => by
         have h1 := HTlo.out
         have h2 := hb.1
         refine ⟨fun e => hb.2.2 (by rw [e]; simp [sfp]), fun e => hb.2.2 (by rw [e]; simp [sfp]), by omega, by omega⟩))
       have HFT8 := Lib.hid (hfz.imp (S' := fun b => b ≠ T ∧ b ≠ M ∧ b ≠ T' ∧ b ≠ M') (fun b hb => by
         have h1 := HSs.out
         have h2 := hb.2.1
         refine ⟨by omega, by omega, fun e => hb.2.2 (by rw [e]; simp [sfp]), fun e => hb.2.2 (by rw [e]; simp [sfp])⟩))
       have HB8 := Lib.hid (HB5.out.trans (hu.below HB5.out.size (fun k hk => Nat.le_trans HB3.out.size (by have := hTa _ hk; omega))))
       have HSZ8 := Lib.hid (show w5.heap.size ≤ w8.heap.size from hu.size)
       have HNT := Lib.hid (show ∀ p ∈ frzE es' (risL (kyN es')), ∀ r ∈ p.2.2.2, r ≠ T ∧ r ≠ M from fun p hp r hr => by
         obtain ⟨q, hq, rfl⟩ := frzE_mem hp
         have h1 := HPT5.out.fresh q hq r hr
         have h2 := HSs.out
         omega)
       clear h9 hown hfz hu hst hgt hTa hw3 hoff)
    | (go_at_call 14
       refine (play_freezeF (HPS.out.below HPT.out.base) (by have := HL.out; omega) w3.heap.size (fun p hp r hr => (HPS.out.at_.node p hp).lt r hr) ((HPS.out.items.lt.below HPT.out.base).imp (fun b hb => hb.2))).mono ?_
       rintro e w5 ⟨A5, c5, rfl, hown, hfz, hst, hgt, hu⟩
       obtain ⟨w3', hw3, hpt⟩ := HPT.out.turn hu (fun r hr => HPS.out.at_.sfpLt r hr)
       have HO5 := Lib.hid hown
       have HFZ := Lib.hid hfz
       have HW3 := Lib.hid hw3
       have HPT5 := Lib.hid hpt
       have HS5 := Lib.hid hst
       have HGS8 := Lib.hid hgt
       have HFS5 := Lib.hid (show ∀ p ∈ frzE es (risL (kyN es)), ∀ r ∈ p.2.2.2, r < w3.heap.size from fun p hp r hr => by
         obtain ⟨q, hq, rfl⟩ := frzE_mem hp
         exact (HPS.out.at_.node q hq).lt r hr)
       have HESt := Lib.hid (show ∀ p ∈ es', ∀ r ∈ p.2.2.2, r < w4.heap.size from fun p hp r hr => (HPT.out.at_.node p hp).lt r hr)
       have HITt := Lib.hid (((HPT.out.items.lt.keepS hu.size (fun b hb hlt => hu.block b hlt (fun hm => by have := HPS.out.at_.sfpLt _ hm; have := hb.1.2; omega))).imp (fun b hb => hb.2)) : ItemsIn (fun b => b < w4.heap.size) w5 _ m')
       have HB5 := Lib.hid (HB4.out.trans (hu.below HB4.out.size (fun k hk => Nat.le_trans HB2.out.size (HPS.out.above _ hk))))
       clear hown hfz hu hpt hw3 hst hgt)
    | (go_at_call 13
       refine (cut_two 7 A5 A8 c5 c8 (frL es m) (frL es' m') w8 _ HO58.out HO8.out HFS8.out.fz HFT8.out.fz (by rw [frL_len, frL_len]; have h1 := HPS.out.len.2; have h2 := HPT.out.len.2; have h3 := HL.out; have h4 := HL2.out; omega)).mono ?_
       rintro e w9 ⟨C, rfl, hcut, hb9⟩
       have HCUT := Lib.hid hcut
       have HB89 := Lib.hid hb9
       clear hcut hb9))
  have HOKs := Lib.hid (tells_ok HPS.out.at_ HPS.out.tells)
  have HOKt := Lib.hid (tells_ok HPT.out.at_ HPT.out.tells)
  have HLEN := Lib.hid (show m.length ≤ 100 ∧ m'.length ≤ 100 by have h1 := HPS.out.len.2; have h2 := HPT.out.len.2; have h3 := HL.out; have h4 := HL2.out; omega)
  have KSA := Lib.hid (fun W v S1 S2 (hc : CutIn W C 7 (sortEn (frL es m ++ frL es' m'))) (f1 : FzAt S1 W es rs rh (.slice Am m.length cm) m) (f2 : FzAt S2 W es' rs rh (.slice Am' m'.length cm') m') (hp : RowIn 1 partIC W v [(Am, cm, m), (Am', cm', m')]) => csame_any S1 S2 C v Am Am' cm cm' m m' es es' rs rh til wd W hc f1 f2 HPS.out.tells HPT.out.tells HALS.out HALT.out hp HLEN.out.1 HLEN.out.2 HOKs.out HOKt.out HR.out.r2 HR.out.h2 HT.out.1 HT.out.2)
  have HG1 := Lib.hid (grown_le HGS8.out (show l.length ≤ 20 from HL.out))
  have HG2 := Lib.hid (grown_le HGT8.out (show l'.length ≤ 20 from HL2.out))
  have HVV := Lib.hid (show ver ≤ 1000 * 20 ∧ ver' ≤ 1000 * 20 by have h1 := HPS.out.ver_; have h2 := HPT.out.ver_; have h3 := HL.out; have h4 := HL2.out; omega)
  have HPRE := Lib.hid (fun W10 (v : Value) (hb10 : Below w9.heap.size w9 W10) (hrow : RowG (fun b => w9.heap.size ≤ b) 1 partIC W10 v [(Am, cm, m), (Am', cm', m')]) => show Pre w W10 c rs rh T M T' M' ver ver' C es es' v Am Am' cm cm' m m' w8.heap.size from by
    have hb : Below w8.heap.size w8 W10 := bthen HB89.out hb10
    have h1 := HSs.out
    have h2 := HTlo.out
    have h3 := HTl.out
    have h4 := HSlo.out
    have h5 := HSZ8.out
    have h6 := HB2.out.size
    have h7 := HB3.out.size
    refine ⟨HSS8.out.belowS hb, HST8.out.belowS hb, HFS8.out.below hb, HFT8.out.below hb, HCUT.out.below hb10, hrow.imp (fun b hb9 => Nat.le_trans HB89.out.size hb9), bthen HB8.out hb, ⟨by omega, by omega, by omega, by omega⟩, ⟨by omega, by omega, by omega, by omega⟩, ⟨by omega, by omega, by omega, by omega⟩, fun p hp r hr => ?_, HNT.out⟩
    have := HFS5.out p hp r hr
    omega)
  clear HPS HPT HPT5 HO5 HFZ HW3 HESt HITt HB5 HO8 HO58 HFS8 HFT8 HSS8 HST8 HGT8 HGS8 HB4 HSFt HTlo HTl HSs HSlo HS5 HFS5 HNT HOKs HOKt HALS HALT
  go_wp2_with (first
    | (go_at_call 15
       refine calls_named ?_
       intro W10 hW10
       have hb10 : Below w9.heap.size w9 W10 := by rw [hW10]; exact balloc (Below.refl _ _) _
       have hrow : RowG (fun b => w9.heap.size ≤ b) 1 partIC W10 (.slice (some ⟨w9.heap.size, 0, none⟩) 2 2) [(Am, cm, m), (Am', cm', m')] := ⟨by rw [hW10]; exact RowIn.lit2 w9 (Am, cm, m) (Am', cm', m') _ _ w9.heap.size rfl (fun _ => rfl) rfl, fun b o n c e _ => by
         simp only [Value.slice.injEq, Option.some.injEq, Addr.mk.injEq] at e
         omega⟩
       have hpre := HPRE.out W10 _ hb10 hrow
       clear hW10 hb10 hrow
       refine (cutEpoch_any C 7 _ W10 hpre.cut.in_).mono ?_
       rintro e w11 ⟨rfl, hb⟩
       have HP11 := Lib.hid (hpre.next hb)
       clear hpre hb)
    | (go_at_call 16
       have hk := HP11.out.kept (Nat.le_refl _) (fun _ _ _ _ _ _ => rfl)
       refine (KSA.out w11 _ _ _ hk.1 hk.2.1 hk.2.2.1 hk.2.2.2).mono ?_
       rintro e w12 ⟨rfl, hb⟩
       have HP12 := Lib.hid (HP11.out.next hb)
       clear hk hb))
  clear HPRE HP11 HCUT HB89 HB8
  have hl9 : l''.length ≤ 9223372036854775807 := by have := HL3.out; omega
  go_loopg [75] l''.length (fun g s75 wr => ∃ (k v1 v2 : Nat) (e1 e2 : List (KO × NE)), k ≤ l''.length ∧ l''.length - k ≤ g ∧ s75 = .int .i64 k ∧ Two w12 wr c rs rh T M T' M' (20 + 2 * k) v1 v2 e1 e2 ∧ Below w.heap.size w wr)
  case atStart => exact ⟨0, ver, ver', _, _, Nat.zero_le _, Nat.le_refl _, rfl, HP12.out.two HG1.out HG2.out HVV.out.1 HVV.out.2, HP12.out.below⟩
  case round =>
    obtain ⟨k, v1, v2, e1, e2, hk, hg, rfl, htw, hb⟩ := hrel
    rename World => wr
    have HTW := Lib.hid htw
    have HB := Lib.hid hb
    clear htw hb
    by_cases hlt : k < l''.length
    · obtain ⟨b, o, rfl, hbl, hat⟩ := (HV''.out.below HB.out).at_ hlt
      have hxok := HOK''.out _ (List.getElem_mem hlt)
      generalize l''[k] = x at hat hxok
      obtain ⟨ky, a⟩ := x
      obtain ⟨ko, rfl⟩ : ∃ ko : KO, ko.1 = ky := ⟨⟨ky, hxok⟩, rfl⟩
      have c0 := hat 0 _ rfl
      have c1 := hat 1 _ rfl
      have c2 := hat 2 _ rfl
      have c3 := hat 3 _ rfl
      have c4 := hat 4 _ rfl
      have c5 := hat 5 _ rfl
      have c6 := hat 6 _ rfl
      have c7 := hat 7 _ rfl
      have c8 := hat 8 _ rfl
      have c9 := hat 9 _ rfl
      have c10 := hat 10 _ rfl
      have c11 := hat 11 _ rfl
      have c12 := hat 12 _ rfl
      have c13 := hat 13 _ rfl
      have c14 := hat 14 _ rfl
      have c15 := hat 15 _ rfl
      rw [Nat.add_zero] at c0
      simp only at c0 c1 c2 c3 c4 c5 c6 c7 c8 c9 c10 c11 c12 c13 c14 c15 hxok
      have hn1 : (k : Int) < (l''.length : Int) := by omega
      have hn0 : (0 : Int) ≤ (k : Int) := by omega
      have HK := Lib.hid hlt
      have HKN := Lib.hid (show 20 + 2 * k ≤ 98 by have := HL3.out; omega)
      have HLOW := Lib.hid (show ∀ (W : World) (n u1 u2 : Nat) (x1 x2 : List (KO × NE)), Two w12 W c rs rh T M T' M' n u1 u2 x1 x2 → (∀ r ∈ sfp T M x1, w.heap.size ≤ r) ∧ ∀ r ∈ sfp T' M' x2, w.heap.size ≤ r from fun W n u1 u2 x1 x2 h => by
        have h1 := HP12.out.hi
        have h2 := HP12.out.below.size
        refine ⟨fun r hr => ?_, fun r hr => ?_⟩
        · rcases h.sS r hr with rfl | rfl | h3
          · exact h1.1
          · exact h1.2.1
          · omega
        · rcases h.sT r hr with rfl | rfl | h3
          · exact h1.2.2.1
          · exact h1.2.2.2
          · omega)
      clear hat hxok hlt
      as_aux_lemma =>
      go_wp2_with (first
        | (go_at_call 17
           have h9 := HT5
           refine (two_s HT5.out.swap HC.out (by have := HKN.out; omega) ko a).mono ?_
           rintro e w6 ⟨u2, x2, rfl, htw, hu⟩
           have HT6 := Lib.hid htw.swap
           have HB6 := Lib.hid (HB5.out.trans (hu.below HB5.out.size (fun r hr => (HLOW.out _ _ _ _ _ _ HT5.out).2 r hr)))
           clear h9 htw hu)
        | (go_at_call 17
           refine calls_named ?_
           intro W4 hW4
           have hb4 : Below wr.heap.size wr W4 := by rw [hW4]; exact balloc (Below.refl _ _) _
           have hx4 : W4.heap[wr.heap.size]? = some (.cells #[.int .u64 ko.1.1, .int .u64 ko.1.2, .int .i64 a.kind, .int .i64 a.smp.1, .int .i64 a.smp.2, .int .i64 a.pol.mn, .int .i64 a.pol.mx, .int .i64 a.pol.tg, .int .i64 a.pol.tol, .int .i64 a.pol.win, .int .i64 a.pol.hold, .int .i64 a.adv.tick, .int .i64 a.adv.load, .int .i64 a.adv.want, .int .i64 a.adv.repl, .int .i64 a.adv.why] 50 (0, 0)) := by rw [hW4]; exact heap_alloc_new _ _
           clear hW4
           have hnew : wr.heap.size ∉ sfp T M e1 := fun hq => by have := HTW.out.s.sfpLt _ hq; omega
           have ht4 := HTW.out.below hb4
           refine (two_s ht4 HC.out (by have := HKN.out; omega) ko a).mono ?_
           rintro e w5 ⟨u1, x1, rfl, htw, hu⟩
           have hx5 := (hu.block _ (Array.getElem?_eq_some_iff.1 hx4).1 hnew).trans hx4
           obtain ⟨a3, a3f, a3l⟩ := box_cells (Below.refl _ _) hx5
           have HT5 := Lib.hid htw
           have HB5 := Lib.hid ((bthen HB.out hb4).trans (hu.below (bthen HB.out hb4).size (fun r hr => (HLOW.out _ _ _ _ _ _ ht4).1 r hr)))
           clear hb4 hx4 hnew ht4 htw hu hx5))
      go_roundg (l''.length - (k + 1))
      case measure => omega
      case rel => exact ⟨k + 1, u1, u2, x1, x2, HK.out, Nat.le_refl _, by go_num, by have := HT6.out; rw [show 20 + 2 * (k + 1) = 20 + 2 * k + 1 + 1 by omega]; exact this, HB6.out⟩
    · obtain rfl : k = l''.length := by omega
      as_aux_lemma =>
      go_wp2_with (first
        | (go_at_call 16
           have hk := HP12.out.kept HTW.out.size HTW.out.keep
           refine (KSA.out wr _ _ _ hk.1 hk.2.1 hk.2.2.1 hk.2.2.2).mono ?_
           rintro e w20 ⟨rfl, hb⟩
           have HB20 := Lib.hid (bthen HB.out hb)
           clear hk hb))
      go_ret
      exact ⟨rfl, HB20.out⟩
end

section
set_option linter.unusedSimpArgs false
set_option linter.unusedVariables false
open Go.RowKit Go.Lib Go.Sort

set_option maxRecDepth 100000 in
set_option maxHeartbeats 4000000 in
theorem ctells_nil (c : Cfg) (A1 : Option Addr) (n1 c1 : Nat) (A2 : Option Addr) (n2 c2 : Nat) (A3 : Option Addr) (n3 c3 : Nat) (til wd : Int) (w : World)  (hok : c.ok) (hc : cfgB c = false) :
    Calls Tryz.prog 3 #[cfgV c, .slice A1 n1 c1, .slice A2 n2 c2, .slice A3 n3 c3, .int .i64 til, .int .i64 wd] w fun e w' => e = .returned (.bool true) ∧ Below w.heap.size w w' := by
  have HRT : Hid (∀ W, Calls Tryz.prog 11 #[.agg #[.int .i64 c.st, .int .i64 c.sa, .int .i64 c.lo, .int .i64 c.hi]] W fun e w' => e = .returned (.bool false) ∧ Below W.heap.size W w') := Lib.hid (fun W => by have := ref17Right_any c W; rw [hc] at this; exact this)
  unfold cfgV
  clear hc hok 
  go_enter Tryz.func3, Tryz.ntmps3
  go_wp2_with (first
    | (go_at_call 10
       refine calls_named ?_
       intro W0 hW0
       have hb0 : Below w.heap.size w W0 := by rw [hW0]; first | exact balloc (Below.refl _ _) _ | exact balloc (balloc (Below.refl _ _) _) _
       have hxc : W0.heap[w.heap.size]? = some (.cells #[.int .i64 c.st, .int .i64 c.sa, .int .i64 c.lo, .int .i64 c.hi] 23 (0, 0)) := by rw [hW0]; first | exact heap_alloc_new _ _ | exact (Below.heap_alloc _ _ _ (by simp)).trans (heap_alloc_new _ _)
       clear hW0
       refine (awake19_any W0).mono ?_
       rintro e w1 ⟨rfl, hb1⟩
       obtain ⟨hxc1, hxc1f, hxc1l⟩ := box_cells hb1 hxc
       have HHXC := Lib.hid ((hb1.block _ (Array.getElem?_eq_some_iff.1 hxc).1).trans hxc)
       have HB1 := Lib.hid (bthen hb0 hb1)
       clear hb0 hxc hb1)
    | (go_at_call 11
       refine (HRT.out _).mono ?_
       rintro e w2 ⟨rfl, hb⟩
       obtain ⟨hx2, hx2f, hx2l⟩ := box_cells hb HHXC.out
       have HB2 := Lib.hid (bthen HB1.out hb)
       clear hb))
  go_ret
  exact ⟨rfl, HB2.out⟩

set_option maxRecDepth 100000 in
set_option maxHeartbeats 4000000 in
theorem ctells_long1 (c : Cfg) (A1 : Option Addr) (n1 c1 : Nat) (A2 : Option Addr) (n2 c2 : Nat) (A3 : Option Addr) (n3 c3 : Nat) (til wd : Int) (w : World)  (h1 : 20 < n1) (hok : c.ok) (hc : cfgB c = true) :
    Calls Tryz.prog 3 #[cfgV c, .slice A1 n1 c1, .slice A2 n2 c2, .slice A3 n3 c3, .int .i64 til, .int .i64 wd] w fun e w' => e = .returned (.bool true) ∧ Below w.heap.size w w' := by
  have HRT : Hid (∀ W, Calls Tryz.prog 11 #[.agg #[.int .i64 c.st, .int .i64 c.sa, .int .i64 c.lo, .int .i64 c.hi]] W fun e w' => e = .returned (.bool true) ∧ Below W.heap.size W w') := Lib.hid (fun W => by have := ref17Right_any c W; rw [hc] at this; exact this)
  have q1 : (20 : Int) < (n1 : Int) := by omega
  unfold cfgV
  clear hc hok h1
  go_enter Tryz.func3, Tryz.ntmps3
  go_wp2_with (first
    | (go_at_call 10
       refine calls_named ?_
       intro W0 hW0
       have hb0 : Below w.heap.size w W0 := by rw [hW0]; first | exact balloc (Below.refl _ _) _ | exact balloc (balloc (Below.refl _ _) _) _
       have hxc : W0.heap[w.heap.size]? = some (.cells #[.int .i64 c.st, .int .i64 c.sa, .int .i64 c.lo, .int .i64 c.hi] 23 (0, 0)) := by rw [hW0]; first | exact heap_alloc_new _ _ | exact (Below.heap_alloc _ _ _ (by simp)).trans (heap_alloc_new _ _)
       clear hW0
       refine (awake19_any W0).mono ?_
       rintro e w1 ⟨rfl, hb1⟩
       obtain ⟨hxc1, hxc1f, hxc1l⟩ := box_cells hb1 hxc
       have HHXC := Lib.hid ((hb1.block _ (Array.getElem?_eq_some_iff.1 hxc).1).trans hxc)
       have HB1 := Lib.hid (bthen hb0 hb1)
       clear hb0 hxc hb1)
    | (go_at_call 11
       refine (HRT.out _).mono ?_
       rintro e w2 ⟨rfl, hb⟩
       obtain ⟨hx2, hx2f, hx2l⟩ := box_cells hb HHXC.out
       have HB2 := Lib.hid (bthen HB1.out hb)
       clear hb))
  go_ret
  exact ⟨rfl, HB2.out⟩

set_option maxRecDepth 100000 in
set_option maxHeartbeats 4000000 in
theorem ctells_long2 (c : Cfg) (A1 : Option Addr) (n1 c1 : Nat) (A2 : Option Addr) (n2 c2 : Nat) (A3 : Option Addr) (n3 c3 : Nat) (til wd : Int) (w : World) (h1 : n1 ≤ 20) (h2 : 20 < n2) (hok : c.ok) (hc : cfgB c = true) :
    Calls Tryz.prog 3 #[cfgV c, .slice A1 n1 c1, .slice A2 n2 c2, .slice A3 n3 c3, .int .i64 til, .int .i64 wd] w fun e w' => e = .returned (.bool true) ∧ Below w.heap.size w w' := by
  have HRT : Hid (∀ W, Calls Tryz.prog 11 #[.agg #[.int .i64 c.st, .int .i64 c.sa, .int .i64 c.lo, .int .i64 c.hi]] W fun e w' => e = .returned (.bool true) ∧ Below W.heap.size W w') := Lib.hid (fun W => by have := ref17Right_any c W; rw [hc] at this; exact this)
  have q1 : ¬ (20 : Int) < (n1 : Int) := by omega
  have q2 : (20 : Int) < (n2 : Int) := by omega
  unfold cfgV
  clear hc hok h1 h2
  go_enter Tryz.func3, Tryz.ntmps3
  go_wp2_with (first
    | (go_at_call 10
       refine calls_named ?_
       intro W0 hW0
       have hb0 : Below w.heap.size w W0 := by rw [hW0]; first | exact balloc (Below.refl _ _) _ | exact balloc (balloc (Below.refl _ _) _) _
       have hxc : W0.heap[w.heap.size]? = some (.cells #[.int .i64 c.st, .int .i64 c.sa, .int .i64 c.lo, .int .i64 c.hi] 23 (0, 0)) := by rw [hW0]; first | exact heap_alloc_new _ _ | exact (Below.heap_alloc _ _ _ (by simp)).trans (heap_alloc_new _ _)
       clear hW0
       refine (awake19_any W0).mono ?_
       rintro e w1 ⟨rfl, hb1⟩
       obtain ⟨hxc1, hxc1f, hxc1l⟩ := box_cells hb1 hxc
       have HHXC := Lib.hid ((hb1.block _ (Array.getElem?_eq_some_iff.1 hxc).1).trans hxc)
       have HB1 := Lib.hid (bthen hb0 hb1)
       clear hb0 hxc hb1)
    | (go_at_call 11
       refine (HRT.out _).mono ?_
       rintro e w2 ⟨rfl, hb⟩
       obtain ⟨hx2, hx2f, hx2l⟩ := box_cells hb HHXC.out
       have HB2 := Lib.hid (bthen HB1.out hb)
       clear hb))
  go_ret
  exact ⟨rfl, HB2.out⟩

set_option maxRecDepth 100000 in
set_option maxHeartbeats 4000000 in
theorem ctells_long3 (c : Cfg) (A1 : Option Addr) (n1 c1 : Nat) (A2 : Option Addr) (n2 c2 : Nat) (A3 : Option Addr) (n3 c3 : Nat) (til wd : Int) (w : World) (h1 : n1 ≤ 20) (h2 : n2 ≤ 20) (h3 : 20 < n3) (hok : c.ok) (hc : cfgB c = true) :
    Calls Tryz.prog 3 #[cfgV c, .slice A1 n1 c1, .slice A2 n2 c2, .slice A3 n3 c3, .int .i64 til, .int .i64 wd] w fun e w' => e = .returned (.bool true) ∧ Below w.heap.size w w' := by
  have HRT : Hid (∀ W, Calls Tryz.prog 11 #[.agg #[.int .i64 c.st, .int .i64 c.sa, .int .i64 c.lo, .int .i64 c.hi]] W fun e w' => e = .returned (.bool true) ∧ Below W.heap.size W w') := Lib.hid (fun W => by have := ref17Right_any c W; rw [hc] at this; exact this)
  have q1 : ¬ (20 : Int) < (n1 : Int) := by omega
  have q2 : ¬ (20 : Int) < (n2 : Int) := by omega
  have q3 : (20 : Int) < (n3 : Int) := by omega
  unfold cfgV
  clear hc hok h1 h2 h3
  go_enter Tryz.func3, Tryz.ntmps3
  go_wp2_with (first
    | (go_at_call 10
       refine calls_named ?_
       intro W0 hW0
       have hb0 : Below w.heap.size w W0 := by rw [hW0]; first | exact balloc (Below.refl _ _) _ | exact balloc (balloc (Below.refl _ _) _) _
       have hxc : W0.heap[w.heap.size]? = some (.cells #[.int .i64 c.st, .int .i64 c.sa, .int .i64 c.lo, .int .i64 c.hi] 23 (0, 0)) := by rw [hW0]; first | exact heap_alloc_new _ _ | exact (Below.heap_alloc _ _ _ (by simp)).trans (heap_alloc_new _ _)
       clear hW0
       refine (awake19_any W0).mono ?_
       rintro e w1 ⟨rfl, hb1⟩
       obtain ⟨hxc1, hxc1f, hxc1l⟩ := box_cells hb1 hxc
       have HHXC := Lib.hid ((hb1.block _ (Array.getElem?_eq_some_iff.1 hxc).1).trans hxc)
       have HB1 := Lib.hid (bthen hb0 hb1)
       clear hb0 hxc hb1)
    | (go_at_call 11
       refine (HRT.out _).mono ?_
       rintro e w2 ⟨rfl, hb⟩
       obtain ⟨hx2, hx2f, hx2l⟩ := box_cells hb HHXC.out
       have HB2 := Lib.hid (bthen HB1.out hb)
       clear hb))
  go_ret
  exact ⟨rfl, HB2.out⟩
end

section
set_option linter.unusedSimpArgs false
set_option linter.unusedVariables false
open Go.RowKit Go.Lib Go.ChangeShapes Go.WideShapes Go.Joins

theorem i64_of_wf {n : Int} (h : (Lit.int .i64 n).wf = true) : I64 n := by simpa [Lit.wf, IntKind.min, IntKind.max, IntKind.signed, IntKind.bits, I64] using h

section
variable {H : Type} {enc : TypeId × Value → H} {w : World} {base : Nat} {spare : Nat → Bool} {held : Bool}

/-- One field of a struct that is a number. -/
theorem field_i64 {fuel : Nat} {t : TypeId} (ht : Tryz.prog.underlying t = some (.int .i64)) (hc : Tryz.prog.cellsOf t = 1) {cs : List Value} {xs : List (DataW H × List MemPlace)} {i o : Nat} (hi : i < xs.length) {v : Value} (hv : cs.drop o = v :: cs.drop (o + 1))
    (h : DataW.trod enc Tryz.prog w base spare held fuel t ((cs.drop o).take (Tryz.prog.cellsOf t)) = xs[i]?) : ∃ n, v = .int .i64 n ∧ I64 n := by
  rw [hc, hv, List.take_succ_cons, List.take_zero, List.getElem?_eq_getElem hi] at h
  obtain ⟨n, hn, _, hw⟩ := DataW.trod_int ht h
  simp only [List.cons.injEq, and_true] at hn
  exact ⟨n, hn, i64_of_wf hw⟩

end
end

section
set_option linter.unusedSimpArgs false
set_option linter.unusedVariables false
open Go.RowKit Go.Lib Go.ChangeShapes Go.WideShapes Go.Joins

theorem cfg_okW {c : Cfg} (hc : cfgB c = true) (hok : c.ok) : CfgOk c c.sa.toNat c.hi.toNat := by
  have h := hc
  unfold cfgB at h
  simp only [Bool.and_eq_true, decide_eq_true_eq] at h
  exact ⟨hc, by omega, by omega, hok⟩
section
variable {H : Type} {enc : TypeId × Value → H} {w : World} {base : Nat} {spare : Nat → Bool} {held : Bool}
set_option maxRecDepth 100000 in
theorem ssmp_readsI {fuel : Nat} {cs : List Value} {x : DataW H × List MemPlace} (h : DataW.trod enc Tryz.prog w base spare held fuel 42 cs = some x) :
    ∃ p : Smp, (I64 p.1 ∧ I64 p.2) ∧ cs = smpC p := by
  obtain ⟨xs, n, _, _, hl, hx, hf⟩ := DataW.trod_struct Tryz.underlying42 h
  rw [cl_ssmp] at hl
  replace hx : xs.length = 2 := hx
  match cs, hl with
  | [a0, a1], _ =>
    obtain ⟨n0, rfl, k0⟩ := field_i64 Tryz.underlying2 cl_si64 (i := 0) (by omega) (o := 0) rfl (hf 0 _ rfl)
    obtain ⟨n1, rfl, k1⟩ := field_i64 Tryz.underlying2 cl_si64 (i := 1) (by omega) (o := 1) rfl (hf 1 _ rfl)
    exact ⟨(n0, n1), ⟨k0, k1⟩, rfl⟩
set_option maxRecDepth 100000 in
theorem a17_readsI {fuel : Nat} {cs : List Value} {x : DataW H × List MemPlace} (h : DataW.trod enc Tryz.prog w base spare held fuel 48 cs = some x) :
    ∃ a : Act17, (I64 a.smp.1 ∧ I64 a.smp.2) ∧ cs = act17C a := by
  obtain ⟨xs, n, _, _, hl, hx, hf⟩ := DataW.trod_struct Tryz.underlying48 h
  rw [cl_sa17] at hl
  replace hx : xs.length = 4 := hx
  match cs, hl with
  | [a0, a1, a2, a3, a4, a5, a6, a7, a8, a9, a10, a11, a12, a13], _ =>
    obtain ⟨n0, rfl⟩ := sfield Tryz.underlying3 cl_sint (i := 0) (by omega) (o := 0) rfl (hf 0 _ rfl)
    have h1 := hf 1 _ rfl
    have h2 := hf 2 _ rfl
    have h3 := hf 3 _ rfl
    rw [List.getElem?_eq_getElem (by omega)] at h1 h2 h3
    obtain ⟨s, hsI, hs⟩ := ssmp_readsI h1
    obtain ⟨p, hp⟩ := spol_reads h2
    obtain ⟨v, hv⟩ := sadv_reads h3
    replace hs : ([a1, a2, a3, a4, a5, a6, a7, a8, a9, a10, a11, a12, a13] : List Value).take (Tryz.prog.cellsOf 42) = _ := hs
    replace hp : ([a3, a4, a5, a6, a7, a8, a9, a10, a11, a12, a13] : List Value).take (Tryz.prog.cellsOf 44) = _ := hp
    replace hv : ([a9, a10, a11, a12, a13] : List Value).take (Tryz.prog.cellsOf 46) = _ := hv
    rw [cl_ssmp] at hs
    rw [cl_spol] at hp
    rw [cl_sadv] at hv
    simp only [smpC, advC, List.take_succ_cons, List.take_zero, List.cons.injEq, and_true] at hs hp hv
    obtain ⟨rfl, rfl⟩ := hs
    obtain ⟨rfl, rfl, rfl, rfl, rfl, rfl⟩ := hp
    obtain ⟨rfl, rfl, rfl, rfl, rfl⟩ := hv
    exact ⟨⟨n0, s, p, v⟩, hsI, rfl⟩
set_option maxRecDepth 100000 in
theorem a18_readsI {fuel : Nat} {cs : List Value} {x : DataW H × List MemPlace} (h : DataW.trod enc Tryz.prog w base spare held fuel 50 cs = some x) :
    ∃ (k : Ky) (a : Act17), k.ok ∧ (I64 a.smp.1 ∧ I64 a.smp.2) ∧ cs = act18C k a := by
  obtain ⟨xs, n, _, _, hl, hx, hf⟩ := DataW.trod_struct Tryz.underlying50 h
  rw [cl_sa18] at hl
  replace hx : xs.length = 2 := hx
  match cs, hl with
  | [a0, a1, a2, a3, a4, a5, a6, a7, a8, a9, a10, a11, a12, a13, a14, a15], _ =>
    have h0 := hf 0 _ rfl
    have h1 := hf 1 _ rfl
    rw [List.getElem?_eq_getElem (by omega)] at h0 h1
    obtain ⟨k, hk, hs⟩ := key_reads h0
    obtain ⟨a, haI, hp⟩ := a17_readsI h1
    replace hs : ([a0, a1, a2, a3, a4, a5, a6, a7, a8, a9, a10, a11, a12, a13, a14, a15] : List Value).take (Tryz.prog.cellsOf 40) = _ := hs
    replace hp : ([a2, a3, a4, a5, a6, a7, a8, a9, a10, a11, a12, a13, a14, a15] : List Value).take (Tryz.prog.cellsOf 48) = _ := hp
    rw [cl_key] at hs
    rw [cl_sa17] at hp
    simp only [keyC, act17C, List.take_succ_cons, List.take_zero, List.cons.injEq, and_true] at hs hp
    obtain ⟨rfl, rfl⟩ := hs
    obtain ⟨rfl, rfl, rfl, rfl, rfl, rfl, rfl, rfl, rfl, rfl, rfl, rfl, rfl, rfl⟩ := hp
    exact ⟨k, a, hk, haI, rfl⟩

theorem actsK_readI {fuel : Nat} {cs : List Value} {x : DataW H × List MemPlace} (h : DataW.trod enc Tryz.prog w base spare held fuel 24 cs = some x) :
    ∃ (v : Value) (l : List ActK), cs = [v] ∧ ((∀ p ∈ l, p.1.ok) ∧ (∀ p ∈ l, I64 p.2.smp.1 ∧ I64 p.2.smp.2)) ∧ RowIn 16 actKC w v l := by
  haveI : Inhabited ActK := ⟨((0, 0), ⟨0, (0, 0), pol0, adv0⟩)⟩
  obtain ⟨v, l, h1, _, h3, h4⟩ := row_read (ok := fun p : ActK => p.1.ok ∧ I64 p.2.smp.1 ∧ I64 p.2.smp.2) (f := actKC) Tryz.underlying24 cl_sa18 (by decide) (fun _ _ _ h => by obtain ⟨k, a, hk, hi, rfl⟩ := a18_readsI h; exact ⟨(k, a), ⟨hk, hi⟩, rfl⟩) h
  exact ⟨v, l, h1, ⟨fun p hp => (h3 p hp).1, fun p hp => (h3 p hp).2⟩, h4⟩
end
end

section
set_option linter.unusedSimpArgs false
set_option linter.unusedVariables false
open Go.RowKit Go.Lib Go.Sort
theorem ctells_walk (c : Cfg) (v v' v'' : Value) (l l' l'' : List ActK) (til wd : Int) (w : World) (hc : c.ok) (hv : RowIn 16 actKC w v l) (hv' : RowIn 16 actKC w v' l') (hv'' : RowIn 16 actKC w v'' l'') (hok : (∀ p ∈ l, p.1.ok) ∧ ∀ p ∈ l, I64 p.2.smp.1 ∧ I64 p.2.smp.2)
    (hok' : (∀ p ∈ l', p.1.ok) ∧ ∀ p ∈ l', I64 p.2.smp.1 ∧ I64 p.2.smp.2) (hok'' : (∀ p ∈ l'', p.1.ok) ∧ ∀ p ∈ l'', I64 p.2.smp.1 ∧ I64 p.2.smp.2) (ht : I64 til) (hw : I64 wd) :
    Calls Tryz.prog 3 #[cfgV c, v, v', v'', .int .i64 til, .int .i64 wd] w fun e w' => e = .returned (.bool true) ∧ Below w.heap.size w w' := by
  obtain ⟨A, cc, rfl⟩ := hv.form
  obtain ⟨A', cc', rfl⟩ := hv'.form
  obtain ⟨A'', cc'', rfl⟩ := hv''.form
  cases hb : cfgB c with
  | false => exact ctells_nil c A _ cc A' _ cc' A'' _ cc'' til wd w hc hb
  | true =>
    by_cases hl : l.length ≤ 20
    · by_cases hl' : l'.length ≤ 20
      · by_cases hl'' : l''.length ≤ 20
        · exact ctells_main c _ _ _ _ _ l l' l'' til wd w hv hv' hv'' hok.1 hok'.1 hok''.1 hok.2 hok'.2 hl hl' hl'' (cfg_okW hb hc) ht hw
        · exact ctells_long3 c A _ cc A' _ cc' A'' _ cc'' til wd w hl hl' (by omega) hc hb
      · exact ctells_long2 c A _ cc A' _ cc' A'' _ cc'' til wd w hl (by omega) hc hb
    · exact ctells_long1 c A _ cc A' _ cc' A'' _ cc'' til wd w (by omega) hc hb
end

end Go.Proofs.YtfegielnmdppgaaGreat
