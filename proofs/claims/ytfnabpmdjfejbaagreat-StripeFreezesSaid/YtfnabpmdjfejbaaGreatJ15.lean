/- The walk of ident's Cmp; Walks of ident's at, letter, Unpack, Right, Cmp; Walks of flywheelref03's place, Id, Key, Before; Walks of what checks configs, policies, calls: route.Right, node.Right, series.Right, policy.Check, store.Check, and the references' twins. -/
import Derived.Test.YtfnabpmdjfejbaaGreatJ01
import Derived.Test.YtfnabpmdjfejbaaGreatJ14
namespace Go.Proofs.YtfnabpmdjfejbaaGreat

section
set_option linter.unusedSimpArgs false
set_option linter.unusedVariables false
open Go.RowKit Go.Lib

def cmpI (a b c d : Nat) : Int := if a = c ∧ b = d then 0 else if a < c ∨ a = c ∧ b < d then -1 else 1

set_option maxRecDepth 100000 in
set_option maxHeartbeats 1000000 in
theorem cmp_any (a b c d : Nat) (w : World) (h1 : a < 18446744073709551616) (h2 : b < 18446744073709551616) (h3 : c < 18446744073709551616) (h4 : d < 18446744073709551616) :
    Calls Tryz.prog 55 #[keyV a b, keyV c d] w fun e w' => e = .returned (.int .i64 (cmpI a b c d)) ∧ Below w.heap.size w w' := by
  unfold keyV
  by_cases e1 : a = c
  · subst e1
    by_cases e2 : b = d
    · subst e2
      have hv : cmpI a b a b = 0 := by simp [cmpI]
      rw [hv]
      clear hv
      go_enter Tryz.func55, Tryz.ntmps55
      go_wp2
      go_ret
      exact ⟨rfl, ((Below.refl _ _).alloc (Nat.le_refl _) _).alloc (by simp) _⟩
    · have q : ((b : Int) == (d : Int)) = false := by simp; omega
      by_cases e3 : b < d
      · have hv : cmpI a b a d = -1 := by simp [cmpI, e2, e3]
        rw [hv]
        clear hv
        go_enter Tryz.func55, Tryz.ntmps55
        go_wp2
        go_ret
        exact ⟨rfl, ((Below.refl _ _).alloc (Nat.le_refl _) _).alloc (by simp) _⟩
      · have hv : cmpI a b a d = 1 := by simp [cmpI, e2, e3]
        rw [hv]
        clear hv
        go_enter Tryz.func55, Tryz.ntmps55
        go_wp2
        go_ret
        exact ⟨rfl, ((Below.refl _ _).alloc (Nat.le_refl _) _).alloc (by simp) _⟩
  · have q : ((a : Int) == (c : Int)) = false := by simp; omega
    by_cases e3 : a < c
    · have hv : cmpI a b c d = -1 := by simp [cmpI, e1, e3]
      rw [hv]
      clear hv
      go_enter Tryz.func55, Tryz.ntmps55
      go_wp2
      go_ret
      exact ⟨rfl, ((Below.refl _ _).alloc (Nat.le_refl _) _).alloc (by simp) _⟩
    · have hv : cmpI a b c d = 1 := by simp [cmpI, e1, e3]
      rw [hv]
      clear hv
      go_enter Tryz.func55, Tryz.ntmps55
      go_wp2
      go_ret
      exact ⟨rfl, ((Below.refl _ _).alloc (Nat.le_refl _) _).alloc (by simp) _⟩
end

section
set_option linter.unusedSimpArgs false
set_option linter.unusedVariables false
open Go.RowKit Go.Lib

theorem u64_and63 (x : Nat) (h : x < 18446744073709551616) : bits BinOp.and IntKind.u64 (x : Int) 63 = ((x % 64 : Nat) : Int) := by
  have := u64_and_nat x 63 h (by decide)
  rw [show (63 : Int) = ((63 : Nat) : Int) from rfl, this, show (63 : Nat) = 2 ^ 6 - 1 from rfl, Nat.and_two_pow_sub_one_eq_mod]

theorem atN_lt (hi lo i : Nat) : atN hi lo i < 64 := by unfold atN; exact Nat.mod_lt _ (by decide)

theorem at_word (x i : Nat) (h : x < 18446744073709551616) : bits BinOp.and IntKind.u64 ((x : Int) / 2 ^ (6 * (9 - i % 10))) 63 = ((x / 64 ^ (9 - i % 10) % 64 : Nat) : Int) := by
  have e : (x : Int) / 2 ^ (6 * (9 - i % 10)) = ((x / 64 ^ (9 - i % 10) : Nat) : Int) := by
    have e2 : (2 : Int) ^ (6 * (9 - i % 10)) = ((64 ^ (9 - i % 10) : Nat) : Int) := by
      rw [show (64 : Nat) = 2 ^ 6 from rfl, ← Nat.pow_mul, Int.natCast_pow]; rfl
    rw [e2, Int.natCast_ediv]
  rw [e, u64_and63 _ (Nat.lt_of_le_of_lt (Nat.div_le_self _ _) h)]

theorem byte_info : (Tryz.prog.info? 5).map (fun i => (i.zero, i.size, i.bytes)) = some (some (.int .u8 0), 1, 1) := by kernel_rfl

def emptyS : ByteArray := { data := #[] }

/-- What Unpack answers. -/
def UnpackSays (hi lo : Nat) (e : Ending) : Prop :=
  (∃ s : ByteArray, IsKey hi lo s.data.toList ∧ e = .returned (.tuple #[.string s, .bool true])) ∨
  ((∀ l, ¬ IsKey hi lo l) ∧ e = .returned (.tuple #[.string { data := #[] }, .bool false]))

def UnpRel (W : World) (hi lo : Nat) (b : Value) (k : Nat) (l : List UInt8) (w' : World) : Prop :=
  k ≤ 20 ∧ l.length ≤ k ∧ (∀ x ∈ l, okB x = true) ∧ (∀ j, j < k → atN hi lo j = dig l j) ∧ w'.ownsRow W.heap.size 5 1 b l.length (bytesV l) ∧ Below W.heap.size W w'

/-- No list has the key: a digit that is no letter's. -/
theorem no_big {hi lo k : Nat} (hk : k < 20) (h : 39 < atN hi lo k) : ∀ l, ¬ IsKey hi lo l := by
  intro l hl
  have := hl.digs k hk
  have := dig_le l k
  omega
/-- No list has the key: a digit behind a gap. -/
theorem no_gap {hi lo k : Nat} {l : List UInt8} (hk : k < 20) (hl : l.length < k) (hdg : ∀ j, j < k → atN hi lo j = dig l j) (h : 0 < atN hi lo k) : ∀ m, ¬ IsKey hi lo m := by
  intro m hm
  have h1 := hm.digs l.length (by omega)
  rw [hdg _ hl, dig_out l _ (Nat.le_refl _)] at h1
  have hmok := ((idL_iff m).1 hm.1).2.2
  have hml : m.length ≤ l.length := by
    rcases Nat.lt_or_ge l.length m.length with h2 | h2
    · rw [dig_at m _ h2] at h1
      have := hmok _ (List.getElem_mem h2)
      simp [okB, ← h1] at this
    · exact h2
  have := hm.digs k hk
  rw [dig_out m k (by omega)] at this
  omega

theorem unp_succ_zero {hi lo k : Nat} {l : List UInt8} (hl : l.length ≤ k) (hdg : ∀ j, j < k → atN hi lo j = dig l j) (h : atN hi lo k = 0) : ∀ j, j < k + 1 → atN hi lo j = dig l j := by
  intro j hj
  rcases Nat.lt_or_ge j k with h1 | h1
  · exact hdg j h1
  · obtain rfl : j = k := by omega
    rw [h, dig_out l _ hl]
theorem unp_succ_some {hi lo k : Nat} {l : List UInt8} (hl : l.length = k) (hdg : ∀ j, j < k → atN hi lo j = dig l j) (h : 0 < atN hi lo k) (h2 : atN hi lo k < 40) :
    ∀ j, j < k + 1 → atN hi lo j = dig (l ++ [letterN (atN hi lo k)]) j := by
  intro j hj
  rcases Nat.lt_or_ge j k with h1 | h1
  · rw [hdg j h1]
    simp [dig, List.getElem?_append_left (show j < l.length by omega)]
  · obtain rfl : j = k := by omega
    rw [dig, List.getElem?_append_right (by omega)]
    simp [hl, (letter_all _ h2 h).1]

def RightB (hi lo : Nat) (b : Bool) : Prop := (b = true ∧ ∃ s : ByteArray, IsKey hi lo s.data.toList) ∨ (b = false ∧ ∀ l, ¬ IsKey hi lo l)
end

section
set_option linter.unusedSimpArgs false
set_option linter.unusedVariables false
open Go.RowKit Go.Lib

def lettersL : List UInt8 := [45, 46, 48, 49, 50, 51, 52, 53, 54, 55, 56, 57, 95, 97, 98, 99, 100, 101, 102, 103, 104, 105, 106, 107, 108, 109, 110, 111, 112, 113, 114, 115, 116, 117, 118, 119, 120, 121, 122]

theorem letters_code : ∀ i, i < 39 → codeB (lettersL.getD i 0) = i + 1 := by decide


/-- A byte that is none of the first letters has a greater number, or none. -/
theorem place_none (c : UInt8) (h : ∀ j, j < 39 → lettersL.getD j 0 ≠ c) : codeB c = 0 := by
  rcases Nat.eq_zero_or_pos (codeB c) with h0 | h0
  · exact h0
  · have hle := codeB_le c
    have e := letters_code (codeB c - 1) (by omega)
    refine absurd ?_ (h (codeB c - 1) (by omega))
    have hok : okB (lettersL.getD (codeB c - 1) 0) = true := by rw [okB, decide_eq_true_eq]; omega
    exact codeB_inj _ _ hok (by omega)

def lettersS : ByteArray := ⟨lettersL.toArray⟩
theorem lettersS_get (k : Nat) (h : k < lettersS.size) : lettersS[k] = lettersL.getD k 0 := by
  have h' : k < lettersL.length := h
  simp only [List.getD, List.getElem?_eq_getElem h', Option.getD_some]
  rfl

/-- A key as a value. -/
def keyS (s : ByteArray) : Value := keyV (hiN s.data.toList) (loN s.data.toList)

theorem keyN_lt9 (l : List UInt8) (a n : Nat) (h : n ≤ 9) : keyN l a n < 18014398509481984 :=
  Nat.lt_of_lt_of_le (keyN_lt l a n) (Nat.pow_le_pow_right (n := 64) (j := 9) (by decide) h)

/-! ### Before: the order of bytes -/

def beforeL : List UInt8 → List UInt8 → Bool
  | a :: l, b :: m => if a = b then beforeL l m else decide (a.toNat < b.toNat)
  | [], _ :: _ => true
  | _, [] => false

theorem beforeL_cons (a : UInt8) (l m : List UInt8) : beforeL (a :: l) (a :: m) = beforeL l m := by simp [beforeL]

theorem beforeL_drop (l m : List UInt8) : ∀ k, k ≤ l.length → k ≤ m.length → (∀ j, j < k → l[j]? = m[j]?) → beforeL l m = beforeL (l.drop k) (m.drop k) := by
  intro k
  induction k generalizing l m with
  | zero => intros; rfl
  | succ k ih =>
    intro h1 h2 h
    match l, m, h1, h2 with
    | a :: l, b :: m, h1, h2 =>
      have h0 := h 0 (by omega)
      simp at h0
      subst h0
      rw [beforeL_cons, List.drop_succ_cons, List.drop_succ_cons]
      exact ih l m (by simpa using h1) (by simpa using h2) (fun j hj => by simpa using h (j + 1) (by omega))

def beforeS (s t : ByteArray) : Bool := beforeL s.data.toList t.data.toList

def SameTo (s t : ByteArray) (k : Nat) : Prop := ∀ j, j < k → s.data.toList[j]? = t.data.toList[j]?

theorem sameTo_succ {s t : ByteArray} {k : Nat} (h : SameTo s t k) (h1 : k < s.size) (h2 : k < t.size) (e : s[k] = t[k]) : SameTo s t (k + 1) := by
  intro j hj
  rcases Nat.lt_or_ge j k with hl | hl
  · exact h j hl
  · obtain rfl : j = k := by omega
    rw [List.getElem?_eq_getElem (by simpa using h1), List.getElem?_eq_getElem (by simpa using h2)]
    exact congrArg some e

theorem before_at {s t : ByteArray} {k : Nat} (h : SameTo s t k) (h1 : k < s.size) (h2 : k < t.size) (e : s[k] ≠ t[k]) : beforeS s t = decide ((s[k]).toNat < (t[k]).toNat) := by
  have h1' : k < s.data.toList.length := by simpa using h1
  have h2' : k < t.data.toList.length := by simpa using h2
  unfold beforeS
  rw [beforeL_drop _ _ k (by omega) (by omega) h, List.drop_eq_getElem_cons h1', List.drop_eq_getElem_cons h2', beforeL]
  exact if_neg e

theorem before_end {s t : ByteArray} {k : Nat} (h : SameTo s t k) (h1 : k ≤ s.size) (h2 : k ≤ t.size) (e : k = s.size ∨ k = t.size) : beforeS s t = decide (s.size < t.size) := by
  have h1' : s.data.toList.length = s.size := by simp
  have h2' : t.data.toList.length = t.size := by simp
  unfold beforeS
  rw [beforeL_drop _ _ k (by omega) (by omega) h]
  rcases e with e | e
  · rw [List.drop_of_length_le (by omega)]
    rcases Nat.lt_or_ge k t.size with hl | hl
    · rw [List.drop_eq_getElem_cons (by omega)]
      simp [beforeL]; omega
    · rw [List.drop_of_length_le (by omega)]
      simp [beforeL]; omega
  · rw [show t.data.toList.drop k = [] from List.drop_of_length_le (by omega)]
    have hd : decide (s.size < t.size) = false := by simp; omega
    rw [hd]
    cases s.data.toList.drop k <;> rfl
end

section
set_option linter.unusedSimpArgs false
set_option linter.unusedVariables false
open Go.RowKit Go.Lib

set_option maxRecDepth 100000 in
set_option maxHeartbeats 1000000 in
theorem routeRight_any (n : Int) (w : World) (hn : I64 n) :
    Calls Tryz.prog 44 #[.int .i64 n] w fun e w' => e = .returned (.bool (okSt n)) ∧ w = w' := by
  obtain ⟨hn1, hn2⟩ := hn
  by_cases h1 : 1 ≤ n
  · by_cases h2 : n ≤ 64
    · obtain ⟨k, rfl⟩ := Int.eq_ofNat_of_zero_le (show 0 ≤ n by omega)
      have hq := st_and k (by omega) (by omega)
      generalize okSt (k : Int) = b at hq
      go_enter Tryz.func44, Tryz.ntmps44
      go_wp2
      go_ret
      exact ⟨rfl, rfl⟩
    · have hb : okSt n = false := by
        cases hb : okSt n with
        | false => rfl
        | true => exact absurd (okSt_bd n hb).2 h2
      rw [hb]
      go_enter Tryz.func44, Tryz.ntmps44
      go_wp2
      go_ret
      exact ⟨rfl, rfl⟩
  · have hb : okSt n = false := by
      cases hb : okSt n with
      | false => rfl
      | true => exact absurd (okSt_bd n hb).1 h1
    rw [hb]
    go_enter Tryz.func44, Tryz.ntmps44
    go_wp2
    go_ret
    exact ⟨rfl, rfl⟩

set_option maxRecDepth 100000 in
set_option maxHeartbeats 1000000 in
theorem nodeRight_any (c : Cfg) (w : World) (hc : c.ok) :
    Calls Tryz.prog 21 #[cfgV c] w fun e w' => e = .returned (.int .i64 (cfgE c)) ∧ Below w.heap.size w w' := by
  obtain ⟨st, sa, lo, hi⟩ := c
  obtain ⟨h1, h2, h3, h4⟩ := hc
  have H1 := Lib.hid h1
  simp only [I64] at h1 h2 h3 h4
  unfold cfgV
  cases hb : okSt st with
  | false =>
    have hf : cfgE ⟨st, sa, lo, hi⟩ = 1 := by simp [cfgE, cfgB, hb]
    rw [hf]
    have Hb := Lib.hid hb
    clear hb hf
    go_enter Tryz.func21, Tryz.ntmps21
    go_wp2_with (go_at_call 44; refine (routeRight_any _ _ H1.out).mono ?_; rw [Hb.out]; rintro e w' ⟨rfl, rfl⟩)
    all_goals
      go_ret
      exact ⟨rfl, (Below.refl _ _).alloc (Nat.le_refl _) _⟩
  | true =>
    have Hb := Lib.hid hb
    clear hb
    go_enter Tryz.func21, Tryz.ntmps21
    go_wp2_with (go_at_call 44; refine (routeRight_any _ _ H1.out).mono ?_; rw [Hb.out]; rintro e w' ⟨rfl, rfl⟩)
    all_goals
      go_ret
      refine ⟨ret_int ?_, (Below.refl _ _).alloc (Nat.le_refl _) _⟩
      simp only [cfgE, cfgB, Hb.out, Bool.true_and, decide_eq_true_eq]
      split <;> omega

set_option maxRecDepth 100000 in
set_option maxHeartbeats 1000000 in
theorem seriesRight_any (t v : Int) (w : World) :
    Calls Tryz.prog 39 #[.int .i64 t, .int .i64 v] w fun e w' => e = .returned (.int .i64 (serE t v)) ∧ w = w' := by
  go_enter Tryz.func39, Tryz.ntmps39
  go_wp2
  all_goals
    go_ret
    refine ⟨ret_int ?_, rfl⟩
    unfold serE
    repeat' split
    all_goals omega

set_option maxRecDepth 100000 in
set_option maxHeartbeats 1000000 in
theorem ref08Right_any (t v : Int) (w : World) :
    Calls Tryz.prog 48 #[.int .i64 t, .int .i64 v] w fun e w' => e = .returned (.int .i64 (serE t v)) ∧ w = w' := by
  go_enter Tryz.func48, Tryz.ntmps48
  go_wp2
  all_goals
    go_ret
    refine ⟨ret_int ?_, rfl⟩
    unfold serE
    repeat' split
    all_goals omega

set_option maxRecDepth 100000 in
set_option maxHeartbeats 1000000 in
theorem policyCheck_any (p : Pol) (w : World) :
    Calls Tryz.prog 64 #[polV p] w fun e w' => e = .returned (.int .i64 (polE p)) ∧ Below w.heap.size w w' := by
  obtain ⟨a, b, c, d, f, g⟩ := p
  unfold polV
  go_enter Tryz.func64, Tryz.ntmps64
  go_wp2
  all_goals
    go_ret
    refine ⟨ret_int ?_, (Below.refl _ _).alloc (Nat.le_refl _) _⟩
    simp only [polE, polB, decide_eq_true_eq]
    split <;> omega

set_option maxRecDepth 100000 in
set_option maxHeartbeats 1000000 in
theorem ref12Right_any (p : Pol) (w : World) :
    Calls Tryz.prog 51 #[polV p] w fun e w' => e = .returned (.bool (polB p)) ∧ Below w.heap.size w w' := by
  obtain ⟨a, b, c, d, f, g⟩ := p
  unfold polV
  go_enter Tryz.func51, Tryz.ntmps51
  go_wp2
  all_goals
    go_ret
    refine ⟨ret_bool ?_, (Below.refl _ _).alloc (Nat.le_refl _) _⟩
    rw [Bool.eq_iff_iff]
    simp only [polB, decide_eq_true_eq, Bool.false_eq_true, false_iff]
    omega

set_option maxRecDepth 100000 in
set_option maxHeartbeats 1000000 in
theorem ref05Bits_any (n : Int) (w : World) :
    Calls Tryz.prog 20 #[.int .i64 n] w fun e w' => e = .returned (.int .i64 (bitsI n)) ∧ w = w' := by
  go_enter Tryz.func20, Tryz.ntmps20
  go_wp2
  go_loop [3, 4] (fun p b => ∃ k : Nat, k ≤ 7 ∧ b = .int .i64 k ∧ p = .int .i64 ((2 ^ k : Nat) : Int) ∧ ∀ j, j < k → n ≠ ((2 ^ j : Nat) : Int)) (fun _ b => 7 - (intOf b).toNat)
  case atStart => exact ⟨0, by omega, rfl, rfl, fun j hj => absurd hj (by omega)⟩
  case round =>
    obtain ⟨k, hk, rfl, rfl, hno⟩ := hrel
    by_cases hlt : k < 7
    · have hp : 2 ^ k ≤ 2 ^ 6 := Nat.pow_le_pow_right (by decide) (by omega)
      by_cases he : n = ((2 ^ k : Nat) : Int)
      · have hv := bitsI_pow k hlt
        rw [← he] at hv
        have hq : (n == ((2 ^ k : Nat) : Int)) = true := by simp [he]
        have Hv := Lib.hid hv
        clear hv he hno
        generalize 2 ^ k = m at *
        go_wp2
        go_ret
        exact ⟨ret_int Hv.out.symm, rfl⟩
      · have hq : (n == ((2 ^ k : Nat) : Int)) = false := by simpa using he
        have hno' : ∀ j, j < k + 1 → n ≠ ((2 ^ j : Nat) : Int) := by
          intro j hj
          rcases Nat.lt_or_ge j k with h | h
          · exact hno j h
          · obtain rfl : j = k := by omega
            exact he
        have Hno := Lib.hid hno'
        have hm : 2 ^ (k + 1) = 2 ^ k * 2 := Nat.pow_succ 2 k
        clear he hno hno'
        generalize hx : 2 ^ k = m at *
        have Hm := Lib.hid hm
        have Hx := Lib.hid hx
        clear hm hx
        go_wp2
        go_round
        case rel => exact ⟨k + 1, by omega, by go_num, by rw [Hm.out]; simp, Hno.out⟩
        case measure => simp [intOf]; omega
    · obtain rfl : k = 7 := by omega
      have hv := bitsI_none n hno
      have Hv := Lib.hid hv
      clear hv hno hlt hk
      go_wp2
      go_ret
      exact ⟨ret_int Hv.out.symm, rfl⟩

set_option maxRecDepth 100000 in
set_option maxHeartbeats 1000000 in
theorem ref17Right_any (c : Cfg) (w : World) :
    Calls Tryz.prog 6 #[cfgV c] w fun e w' => e = .returned (.bool (cfgB c)) ∧ Below w.heap.size w w' := by
  obtain ⟨st, sa, lo, hi⟩ := c
  unfold cfgV
  have hb := bitsI_ok st
  have Hb := Lib.hid hb
  clear hb
  go_enter Tryz.func6, Tryz.ntmps6
  go_wp2_with (go_at_call 20; refine (ref05Bits_any _ _).mono ?_; generalize bitsI st = b at *; rintro e w' ⟨rfl, rfl⟩)
  all_goals
    go_ret
    refine ⟨ret_bool ?_, (Below.refl _ _).alloc (Nat.le_refl _) _⟩
    have hb := Hb.out
    simp only [cfgB]
    rw [← hb, Bool.eq_iff_iff]
    simp only [Bool.and_eq_true, decide_eq_true_eq, Bool.false_eq_true, false_iff]
    omega

/-- store.Check: what is wrong with a call. -/
theorem chk_kinds (c : CallD) : c.kind = 1 ∨ c.kind = 2 ∨ c.kind = 3 ∨ c.kind = 4 ∨ c.kind = 5 ∨ c.kind = 6 ∨ c.kind = 7 ∨ c.kind = 8 ∨ (c.kind < 1 ∨ 8 < c.kind) := by omega

/-- A call of a kind. -/
def callK (k : Int) (id : ByteArray) (tick val handle a b tg tol win hold : Int) : CallD := ⟨k, id, tick, val, handle, ⟨a, b, tg, tol, win, hold⟩⟩

section
variable (id : ByteArray) (tick val handle a b tg tol win hold : Int) (w : World)

end
end

end Go.Proofs.YtfnabpmdjfejbaaGreat
