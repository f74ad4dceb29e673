/- Walk of ident.Pack; The walk of ident's Cmp; Walks of ident's at, letter, Unpack, Right, Cmp; Walks of flywheelref03's place, Id, Key, Before; Walks of what checks configs, policies, calls: route.Right, node.Right, series.Right, policy.Check, store.Check, and the references' twins. -/
import Derived.Test.YtmniiodpbebnmaaGreatC01
namespace Go.Proofs.YtmniiodpbebnmaaGreat

section
set_option linter.unusedSimpArgs false
set_option linter.unusedVariables false
open Go.RowKit Go.Lib

def packErr : Value := .tuple #[.agg #[.int .u64 0, .int .u64 0], .int .i64 2]
def packV (s : ByteArray) : Value := if idS s = true then .tuple #[.agg #[.int .u64 (hiN s.data.toList), .int .u64 (loN s.data.toList)], .int .i64 0] else packErr

set_option maxHeartbeats 1000000 in
theorem pack_bad (s : ByteArray) (w : World) (hm : s.size ≤ maxLen) (hb : idS s = false) :
    Calls Tryz.prog 81 #[.string s] w fun e w' => e = .returned packErr ∧ Below w.heap.size w w' := by
  have hc : chkV s = 2 := by simp [chkV, hb]
  have Hc := Lib.hid hc
  clear hc hb
  go_enter Tryz.func81, Tryz.ntmps81
  go_wp2_with (go_at_call 56; refine (check_any _ _ hm).mono ?_; rw [Hc.out]; rintro e w1 ⟨rfl, hb1⟩; obtain ⟨hc1, hf1⟩ := bcell hb1; have hz1 := hb1.size; simp at hz1)
  exact bodyPost_ret (v := packErr) (by simp [packErr, results, Tryz.results81, go_sem, hc1, hf1]) rfl ⟨rfl, ((((Below.refl _ _).alloc (Nat.le_refl _) _).trans (hb1.mono (by simp))).setCell (by simp) _).setCell (by simp) _⟩

/-- One round of Pack on a word: the digit goes to its place. -/
theorem word_step (l : List UInt8) (a m pos : Nat) (hm : m < 10) (hpos : pos % 10 = m) (c : UInt8) (q : Nat) (hq : a + m = q) (hcq : dig l q = codeB c) :
    bits BinOp.or IntKind.u64 (partW l a m : Nat) (IntKind.u64.wrap (codeI (c.toNat : Int) * 2 ^ (6 * (9 - (pos : Int) % 10)).toNat)) = (partW l a (m + 1) : Nat) := by
  have hc : dig l (a + m) = codeB c := by rw [hq]; exact hcq
  have h1 := partW_lt l a m (by omega)
  have h2 := partW_succ l a m hm
  have h3 := partW_lt l a (m + 1) (by omega)
  have e : (6 * (9 - (pos : Int) % 10)).toNat = 6 * (9 - m) := by omega
  have hle : dig l (a + m) <<< (6 * (9 - m)) ≤ partW l a (m + 1) := by rw [← h2]; exact Nat.right_le_or
  rw [Nat.shiftLeft_eq, hc] at h2 hle
  rw [e, codeI_cast]
  have e2 : ((codeB c : Nat) : Int) * 2 ^ (6 * (9 - m)) = ((codeB c * 2 ^ (6 * (9 - m)) : Nat) : Int) := by
    rw [Int.natCast_mul, Int.natCast_pow]; rfl
  rw [e2, u64_wrap _ (by omega), u64_or_nat _ _ (by omega) (by omega), h2]

set_option maxHeartbeats 1000000 in
theorem pack_good (s : ByteArray) (w : World) (hm : s.size ≤ maxLen) (hb : idS s = true) :
    Calls Tryz.prog 81 #[.string s] w fun e w' => e = .returned (packV s) ∧ Below w.heap.size w w' := by
  have hc : chkV s = 0 := by simp [chkV, hb]
  have Hc := Lib.hid hc
  obtain ⟨hl1, hl2, hok⟩ := idS_okTo s hb
  have hv : packV s = .tuple #[.agg #[.int .u64 (hiN s.data.toList), .int .u64 (loN s.data.toList)], .int .i64 0] := by simp [packV, hb]
  have Hv := Lib.hid hv
  clear hc hb hv
  go_enter Tryz.func81, Tryz.ntmps81
  go_wp2_with (go_at_call 56; refine (check_any _ _ hm).mono ?_; rw [Hc.out]; rintro e w1 ⟨rfl, hb1⟩; obtain ⟨hc1, hf1⟩ := bcell hb1; have hz1 := hb1.size; simp at hz1)
  go_loopw [6, 7, 8] (fun _ _ _ w' => ∃ pos n : Nat, pos ≤ s.size ∧ w' = ((w1.alloc (.cells #[.int .u64 (partW s.data.toList 0 (min pos 10) : Nat), .int .u64 (partW s.data.toList 10 (pos - 10) : Nat)] 74)).alloc (.stringIter s pos)).drewN n) (fun _ _ _ w' => s.size - w'.iterPos (w1.heap.size + 1))
  case atStart => exact ⟨0, 0, Nat.zero_le _, by simp [partW_zero]; rfl⟩
  case round =>
    obtain ⟨pos, n, hp0, rfl⟩ := hrel
    by_cases hp : pos < s.size
    · have hbt := hok pos hp hp
      have ha := okB_ascii _ hbt
      have hnx : ∀ ty, (Instr.next (.pointer (some ⟨w1.heap.size + 1, 0, none⟩)) true ty).run Tryz.prog (((w1.alloc (.cells #[.int .u64 (partW s.data.toList 0 (min pos 10) : Nat), .int .u64 (partW s.data.toList 10 (pos - 10) : Nat)] 74)).alloc (.stringIter s pos)).drewN n) = _ := fun ty => next_ascii_n (w1.alloc _) s pos n _ ty (by simp) hp ha
      have hbd := codeI_bd (s[pos]).toNat
      have hdg : dig s.data.toList pos = codeB s[pos] := by rw [dig_at _ _ (by simpa using hp)]; rfl
      by_cases h10 : pos < 10
      · have hst := word_step s.data.toList 0 pos pos h10 (by omega) s[pos] pos (by omega) hdg
        have Hst := Lib.hid hst
        clear hbt hst hdg
        go_wp2
        go_region_with (go_at_call 124; refine (code_any _ _ (by omega) (by omega)).mono ?_; rintro e w' ⟨rfl, rfl⟩)
        all_goals
          go_roundw
          case rel =>
            (repeat apply Exists.intro)
            refine ⟨⟨pos + 1, n + 1, by omega, ?_⟩, rfl⟩
            rw [Nat.min_eq_left (Nat.le_of_lt h10), Hst.out, Nat.min_eq_left (show pos + 1 ≤ 10 by omega), show pos - 10 = pos + 1 - 10 by omega]
          case measure => rw [iterPos_n _ _ _ _ _ (by simp), iterPos_n _ _ _ _ _ (by simp)]; omega
      · have hst := word_step s.data.toList 10 (pos - 10) pos (by omega) (by omega) s[pos] pos (by omega) hdg
        have Hst := Lib.hid hst
        clear hbt hst hdg
        go_wp2
        go_region_with (go_at_call 124; refine (code_any _ _ (by omega) (by omega)).mono ?_; rintro e w' ⟨rfl, rfl⟩)
        all_goals
          go_roundw
          case rel =>
            (repeat apply Exists.intro)
            refine ⟨⟨pos + 1, n + 1, by omega, ?_⟩, rfl⟩
            rw [Hst.out, show min pos 10 = min (pos + 1) 10 by omega, show pos - 10 + 1 = pos + 1 - 10 by omega]
          case measure => rw [iterPos_n _ _ _ _ _ (by simp), iterPos_n _ _ _ _ _ (by simp)]; omega
    · have hnx : ∀ ty, (Instr.next (.pointer (some ⟨w1.heap.size + 1, 0, none⟩)) true ty).run Tryz.prog (((w1.alloc (.cells #[.int .u64 (partW s.data.toList 0 (min pos 10) : Nat), .int .u64 (partW s.data.toList 10 (pos - 10) : Nat)] 74)).alloc (.stringIter s pos)).drewN n) = _ := fun ty => next_end_n (w1.alloc _) s pos n _ ty (by simp) hp
      have hv1 : partW s.data.toList 0 (min pos 10) = hiN s.data.toList := by
        rcases Nat.lt_or_ge pos 10 with h | h
        · exact partW_all _ _ _ (by omega) (by simp; omega)
        · rw [Nat.min_eq_right h, partW_ten]; rfl
      have hv2 : partW s.data.toList 10 (pos - 10) = loN s.data.toList := partW_all _ _ _ (by omega) (by simp; omega)
      rw [← hv1, ← hv2] at Hv
      clear hv1 hv2
      have q1 : w.heap.size < w1.heap.size := by omega
      have q2 : w.heap.size < w1.heap.size + 1 := by omega
      have q3 : w.heap.size ≠ w1.heap.size := by omega
      have q4 : w.heap.size ≠ w1.heap.size + 1 := by omega
      have q5 : w1.cell? ⟨w.heap.size, 0, none⟩ = some (.int .u64 0) := by rw [hc1 _ _ (by simp)]; simp [go_sem]
      have q6 : w1.cell? ⟨w.heap.size, 1, none⟩ = some (.int .u64 0) := by rw [hc1 _ _ (by simp)]; simp [go_sem]
      have q7 : w1.frozen? ⟨w.heap.size, 0, none⟩ = false := by rw [hf1 _ _ (by simp)]; simp [go_sem]
      have q8 : w1.frozen? ⟨w.heap.size, 1, none⟩ = false := by rw [hf1 _ _ (by simp)]; simp [go_sem]
      go_wp2
      exact bodyPost_ret (v := packV s) (by rw [Hv.out]; simp [results, Tryz.results81, go_sem, q1, q5, q6, q7, q8]) rfl
        ⟨rfl, below_drewN ((((((Below.refl _ _).alloc (Nat.le_refl _) _).trans (hb1.mono (by simp))).setCell (by simp) _).setCell (by simp) _).alloc (by simp [World.setCell]; omega) _ |>.alloc (by simp [World.setCell]; omega) _) n⟩

theorem pack_any (s : ByteArray) (w : World) (hm : s.size ≤ maxLen) :
    Calls Tryz.prog 81 #[.string s] w fun e w' => e = .returned (packV s) ∧ Below w.heap.size w w' := by
  cases hb : idS s with
  | true => exact pack_good s w hm hb
  | false =>
    have : packV s = packErr := by simp [packV, hb]
    rw [this]
    exact pack_bad s w hm hb
end

section
set_option linter.unusedSimpArgs false
set_option linter.unusedVariables false
open Go.RowKit Go.Lib

def cmpI (a b c d : Nat) : Int := if a = c ∧ b = d then 0 else if a < c ∨ a = c ∧ b < d then -1 else 1
end

section
set_option linter.unusedSimpArgs false
set_option linter.unusedVariables false
open Go.RowKit Go.Lib
end

section
set_option linter.unusedSimpArgs false
set_option linter.unusedVariables false
open Go.RowKit Go.Lib

/-! ### Before: the order of bytes -/
end

section
set_option linter.unusedSimpArgs false
set_option linter.unusedVariables false
open Go.RowKit Go.Lib

set_option maxRecDepth 100000 in
set_option maxHeartbeats 1000000 in
theorem routeRight_any (n : Int) (w : World) (hn : I64 n) :
    Calls Tryz.prog 110 #[.int .i64 n] w fun e w' => e = .returned (.bool (okSt n)) ∧ w = w' := by
  obtain ⟨hn1, hn2⟩ := hn
  by_cases h1 : 1 ≤ n
  · by_cases h2 : n ≤ 64
    · obtain ⟨k, rfl⟩ := Int.eq_ofNat_of_zero_le (show 0 ≤ n by omega)
      have hq := st_and k (by omega) (by omega)
      generalize okSt (k : Int) = b at hq
      go_enter Tryz.func110, Tryz.ntmps110
      go_wp2
      go_ret
      exact ⟨rfl, rfl⟩
    · have hb : okSt n = false := by
        cases hb : okSt n with
        | false => rfl
        | true => exact absurd (okSt_bd n hb).2 h2
      rw [hb]
      go_enter Tryz.func110, Tryz.ntmps110
      go_wp2
      go_ret
      exact ⟨rfl, rfl⟩
  · have hb : okSt n = false := by
      cases hb : okSt n with
      | false => rfl
      | true => exact absurd (okSt_bd n hb).1 h1
    rw [hb]
    go_enter Tryz.func110, Tryz.ntmps110
    go_wp2
    go_ret
    exact ⟨rfl, rfl⟩

set_option maxRecDepth 100000 in
set_option maxHeartbeats 1000000 in
theorem nodeRight_any (c : Cfg) (w : World) (hc : c.ok) :
    Calls Tryz.prog 46 #[cfgV c] w fun e w' => e = .returned (.int .i64 (cfgE c)) ∧ Below w.heap.size w w' := by
  obtain ⟨st, sa, lo, hi⟩ := c
  obtain ⟨h1, h2, h3, h4⟩ := hc
  have H1 := Lib.hid h1
  simp only [I64] at h1 h2 h3 h4
  unfold cfgV
  cases hb : okSt st with
  | false =>
    have hf : cfgE ⟨st, sa, lo, hi⟩ = 1 := by simp [cfgE, cfgB, hb]
    rw [hf]
    have Hb := Lib.hid hb
    clear hb hf
    go_enter Tryz.func46, Tryz.ntmps46
    go_wp2_with (go_at_call 110; refine (routeRight_any _ _ H1.out).mono ?_; rw [Hb.out]; rintro e w' ⟨rfl, rfl⟩)
    all_goals
      go_ret
      exact ⟨rfl, (Below.refl _ _).alloc (Nat.le_refl _) _⟩
  | true =>
    have Hb := Lib.hid hb
    clear hb
    go_enter Tryz.func46, Tryz.ntmps46
    go_wp2_with (go_at_call 110; refine (routeRight_any _ _ H1.out).mono ?_; rw [Hb.out]; rintro e w' ⟨rfl, rfl⟩)
    all_goals
      go_ret
      refine ⟨ret_int ?_, (Below.refl _ _).alloc (Nat.le_refl _) _⟩
      simp only [cfgE, cfgB, Hb.out, Bool.true_and, decide_eq_true_eq]
      split <;> omega

set_option maxRecDepth 100000 in
set_option maxHeartbeats 1000000 in
theorem seriesRight_any (t v : Int) (w : World) :
    Calls Tryz.prog 102 #[.int .i64 t, .int .i64 v] w fun e w' => e = .returned (.int .i64 (serE t v)) ∧ w = w' := by
  go_enter Tryz.func102, Tryz.ntmps102
  go_wp2
  all_goals
    go_ret
    refine ⟨ret_int ?_, rfl⟩
    unfold serE
    repeat' split
    all_goals omega

set_option maxRecDepth 100000 in
set_option maxHeartbeats 1000000 in
theorem policyCheck_any (p : Pol) (w : World) :
    Calls Tryz.prog 103 #[polV p] w fun e w' => e = .returned (.int .i64 (polE p)) ∧ Below w.heap.size w w' := by
  obtain ⟨a, b, c, d, f, g⟩ := p
  unfold polV
  go_enter Tryz.func103, Tryz.ntmps103
  go_wp2
  all_goals
    go_ret
    refine ⟨ret_int ?_, (Below.refl _ _).alloc (Nat.le_refl _) _⟩
    simp only [polE, polB, decide_eq_true_eq]
    split <;> omega

set_option maxRecDepth 100000 in
set_option maxHeartbeats 1000000 in
theorem ref05Bits_any (n : Int) (w : World) :
    Calls Tryz.prog 47 #[.int .i64 n] w fun e w' => e = .returned (.int .i64 (bitsI n)) ∧ w = w' := by
  go_enter Tryz.func47, Tryz.ntmps47
  go_wp2
  go_loop [3, 4] (fun p b => ∃ k : Nat, k ≤ 7 ∧ b = .int .i64 k ∧ p = .int .i64 ((2 ^ k : Nat) : Int) ∧ ∀ j, j < k → n ≠ ((2 ^ j : Nat) : Int)) (fun _ b => 7 - (intOf b).toNat)
  case atStart => exact ⟨0, by omega, rfl, rfl, fun j hj => absurd hj (by omega)⟩
  case round =>
    obtain ⟨k, hk, rfl, rfl, hno⟩ := hrel
    by_cases hlt : k < 7
    · have hp : 2 ^ k ≤ 2 ^ 6 := Nat.pow_le_pow_right (by decide) (by omega)
      by_cases he : n = ((2 ^ k : Nat) : Int)
      · have hv := bitsI_pow k hlt
        rw [← he] at hv
        have hq : (n == ((2 ^ k : Nat) : Int)) = true := by simp [he]
        have Hv := Lib.hid hv
        clear hv he hno
        generalize 2 ^ k = m at *
        go_wp2
        go_ret
        exact ⟨ret_int Hv.out.symm, rfl⟩
      · have hq : (n == ((2 ^ k : Nat) : Int)) = false := by simpa using he
        have hno' : ∀ j, j < k + 1 → n ≠ ((2 ^ j : Nat) : Int) := by
          intro j hj
          rcases Nat.lt_or_ge j k with h | h
          · exact hno j h
          · obtain rfl : j = k := by omega
            exact he
        have Hno := Lib.hid hno'
        have hm : 2 ^ (k + 1) = 2 ^ k * 2 := Nat.pow_succ 2 k
        clear he hno hno'
        generalize hx : 2 ^ k = m at *
        have Hm := Lib.hid hm
        have Hx := Lib.hid hx
        clear hm hx
        go_wp2
        go_round
        case rel => exact ⟨k + 1, by omega, by go_num, by rw [Hm.out]; simp, Hno.out⟩
        case measure => simp [intOf]; omega
    · obtain rfl : k = 7 := by omega
      have hv := bitsI_none n hno
      have Hv := Lib.hid hv
      clear hv hno hlt hk
      go_wp2
      go_ret
      exact ⟨ret_int Hv.out.symm, rfl⟩

set_option maxRecDepth 100000 in
set_option maxHeartbeats 1000000 in
theorem ref17Right_any (c : Cfg) (w : World) :
    Calls Tryz.prog 13 #[cfgV c] w fun e w' => e = .returned (.bool (cfgB c)) ∧ Below w.heap.size w w' := by
  obtain ⟨st, sa, lo, hi⟩ := c
  unfold cfgV
  have hb := bitsI_ok st
  have Hb := Lib.hid hb
  clear hb
  go_enter Tryz.func13, Tryz.ntmps13
  go_wp2_with (go_at_call 47; refine (ref05Bits_any _ _).mono ?_; generalize bitsI st = b at *; rintro e w' ⟨rfl, rfl⟩)
  all_goals
    go_ret
    refine ⟨ret_bool ?_, (Below.refl _ _).alloc (Nat.le_refl _) _⟩
    have hb := Hb.out
    simp only [cfgB]
    rw [← hb, Bool.eq_iff_iff]
    simp only [Bool.and_eq_true, decide_eq_true_eq, Bool.false_eq_true, false_iff]
    omega

/-- store.Check: what is wrong with a call. -/
theorem chk_kinds (c : CallD) : c.kind = 1 ∨ c.kind = 2 ∨ c.kind = 3 ∨ c.kind = 4 ∨ c.kind = 5 ∨ c.kind = 6 ∨ c.kind = 7 ∨ c.kind = 8 ∨ (c.kind < 1 ∨ 8 < c.kind) := by omega

/-- A call of a kind. -/
def callK (k : Int) (id : ByteArray) (tick val handle a b tg tol win hold : Int) : CallD := ⟨k, id, tick, val, handle, ⟨a, b, tg, tol, win, hold⟩⟩

section
variable (id : ByteArray) (tick val handle a b tg tol win hold : Int) (w : World)

set_option maxRecDepth 100000 in
set_option maxHeartbeats 1000000 in
theorem storeCheck_1 (hid : id.size ≤ maxLen) :
    Calls Tryz.prog 42 #[callV (callK 1 id tick val handle a b tg tol win hold)] w fun e w' => e = .returned (.int .i64 (if idS id = true then serE tick val else 2)) ∧ Below w.heap.size w w' := by
  unfold callV callK
  simp only
  cases hi : idS id with
  | false =>
    have hv : chkV id = 2 := by simp [chkV, hi]
    have Hv := Lib.hid hv
    clear hv hi
    go_enter Tryz.func42, Tryz.ntmps42
    go_wp2
    go_region_held3 (fun w' => (∀ j, w'.cell? ⟨w.heap.size, j, none⟩ = (#[.int .i64 1, .string id, .int .i64 tick, .int .i64 val, .int .i64 handle, .int .i64 a, .int .i64 b, .int .i64 tg, .int .i64 tol, .int .i64 win, .int .i64 hold] : Array Value)[j]?) ∧ Below w.heap.size w w' ∧ w.heap.size < w'.heap.size)
      (first | assumption | exact drewA (startA w _ _) | exact keepA (by assumption) hb1 rfl)
      (first
        | (go_at_call 56; refine (check_any _ _ hid).mono ?_; rw [Hv.out]; rintro e w1 ⟨rfl, hb1⟩)
        | (go_at_call 102; refine (seriesRight_any _ _ _).mono ?_; rintro e w' ⟨rfl, rfl⟩))
    all_goals
      have hX := ‹(∀ j, w1.cell? _ = _) ∧ _›
      have hfin := hX.2.1
      clear hX
      go_wp2
      go_ret
      exact ⟨rfl, hfin⟩
  | true =>
    have hv : chkV id = 0 := by simp [chkV, hi]
    have Hv := Lib.hid hv
    clear hv hi
    go_enter Tryz.func42, Tryz.ntmps42
    go_wp2
    go_region_held3 (fun w' => (∀ j, w'.cell? ⟨w.heap.size, j, none⟩ = (#[.int .i64 1, .string id, .int .i64 tick, .int .i64 val, .int .i64 handle, .int .i64 a, .int .i64 b, .int .i64 tg, .int .i64 tol, .int .i64 win, .int .i64 hold] : Array Value)[j]?) ∧ Below w.heap.size w w' ∧ w.heap.size < w'.heap.size)
      (first | assumption | exact drewA (startA w _ _) | exact keepA (by assumption) hb1 rfl)
      (first
        | (go_at_call 56; refine (check_any _ _ hid).mono ?_; rw [Hv.out]; rintro e w1 ⟨rfl, hb1⟩)
        | (go_at_call 102; refine (seriesRight_any _ _ _).mono ?_; rintro e w' ⟨rfl, rfl⟩))
    all_goals
      have hX := ‹(∀ j, w1.cell? _ = _) ∧ _›
      have hfin := hX.2.1
      clear hX
      go_wp2
      go_ret
      exact ⟨rfl, hfin⟩

set_option maxRecDepth 100000 in
set_option maxHeartbeats 1000000 in
theorem storeCheck_2 :
    Calls Tryz.prog 42 #[callV (callK 2 id tick val handle a b tg tol win hold)] w fun e w' => e = .returned (.int .i64 (if tick < 0 then 3 else 0)) ∧ Below w.heap.size w w' := by
  unfold callV callK
  simp only
  by_cases ht : tick < 0
  · have hv : serE tick 0 = 3 := by simp [serE, ht]
    have Hv := Lib.hid hv
    clear hv
    rw [if_pos ht]
    clear ht
    go_enter Tryz.func42, Tryz.ntmps42
    go_wp2_with (go_at_call 102; refine (seriesRight_any _ _ _).mono ?_; rw [Hv.out]; rintro e w' ⟨rfl, rfl⟩)
    go_ret
    exact ⟨rfl, balloc (Below.refl _ _) _⟩
  · have hv : serE tick 0 = 0 := by simp [serE, ht]
    have Hv := Lib.hid hv
    clear hv
    rw [if_neg ht]
    clear ht
    go_enter Tryz.func42, Tryz.ntmps42
    go_wp2_with (go_at_call 102; refine (seriesRight_any _ _ _).mono ?_; rw [Hv.out]; rintro e w' ⟨rfl, rfl⟩)
    go_ret
    exact ⟨rfl, balloc (Below.refl _ _) _⟩

set_option maxRecDepth 100000 in
set_option maxHeartbeats 1000000 in
theorem storeCheck_6 (hid : id.size ≤ maxLen) :
    Calls Tryz.prog 42 #[callV (callK 6 id tick val handle a b tg tol win hold)] w fun e w' => e = .returned (.int .i64 (if idS id = true then polE ⟨a, b, tg, tol, win, hold⟩ else 2)) ∧ Below w.heap.size w w' := by
  unfold callV callK
  simp only
  cases hi : idS id with
  | false =>
    have hv : chkV id = 2 := by simp [chkV, hi]
    have Hv := Lib.hid hv
    clear hv hi
    go_enter Tryz.func42, Tryz.ntmps42
    go_wp2
    go_region_held3 (fun w' => (∀ j, w'.cell? ⟨w.heap.size, j, none⟩ = (#[.int .i64 6, .string id, .int .i64 tick, .int .i64 val, .int .i64 handle, .int .i64 a, .int .i64 b, .int .i64 tg, .int .i64 tol, .int .i64 win, .int .i64 hold] : Array Value)[j]?) ∧ Below w.heap.size w w' ∧ w.heap.size < w'.heap.size)
      (first | assumption | exact drewA (startA w _ _) | exact keepA (by assumption) hb1 rfl | exact keepA (by assumption) hb2 rfl)
      (first
        | (go_at_call 56; refine (check_any _ _ hid).mono ?_; rw [Hv.out]; rintro e w1 ⟨rfl, hb1⟩)
        | (go_at_call 103; refine (policyCheck_any ⟨a, b, tg, tol, win, hold⟩ _).mono ?_; rintro e w2 ⟨rfl, hb2⟩))
    all_goals
      have hX := ‹(∀ j, w2.cell? _ = _) ∧ _›
      have hfin := hX.2.1
      clear hX
      go_wp2
      go_ret
      exact ⟨rfl, hfin⟩
  | true =>
    have hv : chkV id = 0 := by simp [chkV, hi]
    have Hv := Lib.hid hv
    clear hv hi
    go_enter Tryz.func42, Tryz.ntmps42
    go_wp2
    go_region_held3 (fun w' => (∀ j, w'.cell? ⟨w.heap.size, j, none⟩ = (#[.int .i64 6, .string id, .int .i64 tick, .int .i64 val, .int .i64 handle, .int .i64 a, .int .i64 b, .int .i64 tg, .int .i64 tol, .int .i64 win, .int .i64 hold] : Array Value)[j]?) ∧ Below w.heap.size w w' ∧ w.heap.size < w'.heap.size)
      (first | assumption | exact drewA (startA w _ _) | exact keepA (by assumption) hb1 rfl | exact keepA (by assumption) hb2 rfl)
      (first
        | (go_at_call 56; refine (check_any _ _ hid).mono ?_; rw [Hv.out]; rintro e w1 ⟨rfl, hb1⟩)
        | (go_at_call 103; refine (policyCheck_any ⟨a, b, tg, tol, win, hold⟩ _).mono ?_; rintro e w2 ⟨rfl, hb2⟩))
    all_goals
      have hX := ‹(∀ j, w2.cell? _ = _) ∧ _›
      have hfin := hX.2.1
      clear hX
      go_wp2
      go_ret
      exact ⟨rfl, hfin⟩

set_option maxRecDepth 100000 in
set_option maxHeartbeats 1000000 in
theorem storeCheck_5 (hid : id.size ≤ maxLen) :
    Calls Tryz.prog 42 #[callV (callK 5 id tick val handle a b tg tol win hold)] w fun e w' => e = .returned (.int .i64 (if idS id = true then 0 else 2)) ∧ Below w.heap.size w w' := by
  unfold callV callK
  simp only
  cases hi : idS id with
  | false =>
    have hv : chkV id = 2 := by simp [chkV, hi]
    have Hv := Lib.hid hv
    clear hv hi
    go_enter Tryz.func42, Tryz.ntmps42
    go_wp2_with (go_at_call 56; refine (check_any _ _ hid).mono ?_; rw [Hv.out]; rintro e w1 ⟨rfl, hb1⟩; have hA1 := keepA (startA w _ _) hb1 rfl)
    go_ret
    exact ⟨rfl, hA1.2.1⟩
  | true =>
    have hv : chkV id = 0 := by simp [chkV, hi]
    have Hv := Lib.hid hv
    clear hv hi
    go_enter Tryz.func42, Tryz.ntmps42
    go_wp2_with (go_at_call 56; refine (check_any _ _ hid).mono ?_; rw [Hv.out]; rintro e w1 ⟨rfl, hb1⟩; have hA1 := keepA (startA w _ _) hb1 rfl)
    go_ret
    exact ⟨rfl, hA1.2.1⟩

set_option maxRecDepth 100000 in
set_option maxHeartbeats 1000000 in
theorem storeCheck_7 (hid : id.size ≤ maxLen) :
    Calls Tryz.prog 42 #[callV (callK 7 id tick val handle a b tg tol win hold)] w fun e w' => e = .returned (.int .i64 (if idS id = true then 0 else 2)) ∧ Below w.heap.size w w' := by
  unfold callV callK
  simp only
  cases hi : idS id with
  | false =>
    have hv : chkV id = 2 := by simp [chkV, hi]
    have Hv := Lib.hid hv
    clear hv hi
    go_enter Tryz.func42, Tryz.ntmps42
    go_wp2_with (go_at_call 56; refine (check_any _ _ hid).mono ?_; rw [Hv.out]; rintro e w1 ⟨rfl, hb1⟩; have hA1 := keepA (startA w _ _) hb1 rfl)
    go_ret
    exact ⟨rfl, hA1.2.1⟩
  | true =>
    have hv : chkV id = 0 := by simp [chkV, hi]
    have Hv := Lib.hid hv
    clear hv hi
    go_enter Tryz.func42, Tryz.ntmps42
    go_wp2_with (go_at_call 56; refine (check_any _ _ hid).mono ?_; rw [Hv.out]; rintro e w1 ⟨rfl, hb1⟩; have hA1 := keepA (startA w _ _) hb1 rfl)
    go_ret
    exact ⟨rfl, hA1.2.1⟩

set_option maxRecDepth 100000 in
set_option maxHeartbeats 1000000 in
theorem storeCheck_3 :
    Calls Tryz.prog 42 #[callV (callK 3 id tick val handle a b tg tol win hold)] w fun e w' => e = .returned (.int .i64 (0)) ∧ Below w.heap.size w w' := by
  unfold callV callK
  simp only
  go_enter Tryz.func42, Tryz.ntmps42
  go_wp2
  go_ret
  exact ⟨rfl, balloc (Below.refl _ _) _⟩

set_option maxRecDepth 100000 in
set_option maxHeartbeats 1000000 in
theorem storeCheck_4 :
    Calls Tryz.prog 42 #[callV (callK 4 id tick val handle a b tg tol win hold)] w fun e w' => e = .returned (.int .i64 (0)) ∧ Below w.heap.size w w' := by
  unfold callV callK
  simp only
  go_enter Tryz.func42, Tryz.ntmps42
  go_wp2
  go_ret
  exact ⟨rfl, balloc (Below.refl _ _) _⟩

set_option maxRecDepth 100000 in
set_option maxHeartbeats 1000000 in
theorem storeCheck_8 :
    Calls Tryz.prog 42 #[callV (callK 8 id tick val handle a b tg tol win hold)] w fun e w' => e = .returned (.int .i64 (0)) ∧ Below w.heap.size w w' := by
  unfold callV callK
  simp only
  go_enter Tryz.func42, Tryz.ntmps42
  go_wp2
  go_ret
  exact ⟨rfl, balloc (Below.refl _ _) _⟩

set_option maxRecDepth 100000 in
set_option maxHeartbeats 1000000 in
theorem storeCheck_no (k : Int) (hk : k < 1 ∨ 8 < k) :
    Calls Tryz.prog 42 #[callV (callK k id tick val handle a b tg tol win hold)] w fun e w' => e = .returned (.int .i64 (14)) ∧ Below w.heap.size w w' := by
  unfold callV callK
  simp only
  have q1 : (k == 1) = false := by simp; omega
  have q2 : (k == 2) = false := by simp; omega
  have q3 : (k == 3) = false := by simp; omega
  have q4 : (k == 4) = false := by simp; omega
  have q5 : (k == 5) = false := by simp; omega
  have q6 : (k == 6) = false := by simp; omega
  have q7 : (k == 7) = false := by simp; omega
  have q8 : (k == 8) = false := by simp; omega
  clear hk
  go_enter Tryz.func42, Tryz.ntmps42
  go_wp2
  go_ret
  exact ⟨rfl, balloc (Below.refl _ _) _⟩

end

theorem storeCheck_any (c : CallD) (w : World) (hc : c.ok) :
    Calls Tryz.prog 42 #[callV c] w fun e w' => e = .returned (.int .i64 (chkC c)) ∧ Below w.heap.size w w' := by
  obtain ⟨kind, id, tick, val, handle, ⟨a, b, tg, tol, win, hold⟩⟩ := c
  obtain ⟨_, hid, _, _, _, _⟩ := hc
  simp only at hid
  rcases chk_kinds ⟨kind, id, tick, val, handle, ⟨a, b, tg, tol, win, hold⟩⟩ with h | h | h | h | h | h | h | h | h
  all_goals simp only at h
  · subst h
    have e : chkC ⟨1, id, tick, val, handle, ⟨a, b, tg, tol, win, hold⟩⟩ = if idS id = true then serE tick val else 2 := by
      cases hi : idS id <;> simp [chkC, hi]
    rw [e]; exact storeCheck_1 id tick val handle a b tg tol win hold w hid
  · subst h
    have e : chkC ⟨2, id, tick, val, handle, ⟨a, b, tg, tol, win, hold⟩⟩ = if tick < 0 then 3 else 0 := by simp [chkC]
    rw [e]; exact storeCheck_2 id tick val handle a b tg tol win hold w
  · subst h
    exact storeCheck_3 id tick val handle a b tg tol win hold w
  · subst h
    exact storeCheck_4 id tick val handle a b tg tol win hold w
  · subst h
    have e : chkC ⟨5, id, tick, val, handle, ⟨a, b, tg, tol, win, hold⟩⟩ = if idS id = true then 0 else 2 := by
      cases hi : idS id <;> simp [chkC, hi]
    rw [e]; exact storeCheck_5 id tick val handle a b tg tol win hold w hid
  · subst h
    have e : chkC ⟨6, id, tick, val, handle, ⟨a, b, tg, tol, win, hold⟩⟩ = if idS id = true then polE ⟨a, b, tg, tol, win, hold⟩ else 2 := by
      cases hi : idS id <;> cases hp : polB ⟨a, b, tg, tol, win, hold⟩ <;> simp [chkC, polE, hi, hp]
    rw [e]; exact storeCheck_6 id tick val handle a b tg tol win hold w hid
  · subst h
    have e : chkC ⟨7, id, tick, val, handle, ⟨a, b, tg, tol, win, hold⟩⟩ = if idS id = true then 0 else 2 := by
      cases hi : idS id <;> simp [chkC, hi]
    rw [e]; exact storeCheck_7 id tick val handle a b tg tol win hold w hid
  · subst h
    exact storeCheck_8 id tick val handle a b tg tol win hold w
  · have e : chkC ⟨kind, id, tick, val, handle, ⟨a, b, tg, tol, win, hold⟩⟩ = 14 := by simp [chkC, h]
    rw [e]; exact storeCheck_no id tick val handle a b tg tol win hold w kind h
end

end Go.Proofs.YtmniiodpbebnmaaGreat
