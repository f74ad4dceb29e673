/- Walks of flywheelref03's place, Id, Key, Before; Walks of what checks configs, policies, calls: route.Right, node.Right, series.Right, policy.Check, store.Check, and the references' twins. -/
import Derived.Test.YtfegielnmdppgaaJ26
namespace Go.Proofs.Ytfegielnmdppgaa

section
set_option linter.unusedSimpArgs false
set_option linter.unusedVariables false
open Go.RowKit Go.Lib

def lettersL : List UInt8 := [45, 46, 48, 49, 50, 51, 52, 53, 54, 55, 56, 57, 95, 97, 98, 99, 100, 101, 102, 103, 104, 105, 106, 107, 108, 109, 110, 111, 112, 113, 114, 115, 116, 117, 118, 119, 120, 121, 122]

theorem letters_code : ∀ i, i < 39 → codeB (lettersL.getD i 0) = i + 1 := by decide


/-- A byte that is none of the first letters has a greater number, or none. -/
theorem place_none (c : UInt8) (h : ∀ j, j < 39 → lettersL.getD j 0 ≠ c) : codeB c = 0 := by
  rcases Nat.eq_zero_or_pos (codeB c) with h0 | h0
  · exact h0
  · have hle := codeB_le c
    have e := letters_code (codeB c - 1) (by omega)
    refine absurd ?_ (h (codeB c - 1) (by omega))
    have hok : okB (lettersL.getD (codeB c - 1) 0) = true := by rw [okB, decide_eq_true_eq]; omega
    exact codeB_inj _ _ hok (by omega)

def lettersS : ByteArray := ⟨lettersL.toArray⟩
theorem lettersS_get (k : Nat) (h : k < lettersS.size) : lettersS[k] = lettersL.getD k 0 := by
  have h' : k < lettersL.length := h
  simp only [List.getD, List.getElem?_eq_getElem h', Option.getD_some]
  rfl

/-- A key as a value. -/
def keyS (s : ByteArray) : Value := keyV (hiN s.data.toList) (loN s.data.toList)

theorem keyN_lt9 (l : List UInt8) (a n : Nat) (h : n ≤ 9) : keyN l a n < 18014398509481984 :=
  Nat.lt_of_lt_of_le (keyN_lt l a n) (Nat.pow_le_pow_right (n := 64) (j := 9) (by decide) h)

/-! ### Before: the order of bytes -/

def beforeL : List UInt8 → List UInt8 → Bool
  | a :: l, b :: m => if a = b then beforeL l m else decide (a.toNat < b.toNat)
  | [], _ :: _ => true
  | _, [] => false

theorem beforeL_cons (a : UInt8) (l m : List UInt8) : beforeL (a :: l) (a :: m) = beforeL l m := by simp [beforeL]

theorem beforeL_drop (l m : List UInt8) : ∀ k, k ≤ l.length → k ≤ m.length → (∀ j, j < k → l[j]? = m[j]?) → beforeL l m = beforeL (l.drop k) (m.drop k) := by
  intro k
  induction k generalizing l m with
  | zero => intros; rfl
  | succ k ih =>
    intro h1 h2 h
    match l, m, h1, h2 with
    | a :: l, b :: m, h1, h2 =>
      have h0 := h 0 (by omega)
      simp at h0
      subst h0
      rw [beforeL_cons, List.drop_succ_cons, List.drop_succ_cons]
      exact ih l m (by simpa using h1) (by simpa using h2) (fun j hj => by simpa using h (j + 1) (by omega))

def beforeS (s t : ByteArray) : Bool := beforeL s.data.toList t.data.toList

def SameTo (s t : ByteArray) (k : Nat) : Prop := ∀ j, j < k → s.data.toList[j]? = t.data.toList[j]?

theorem sameTo_succ {s t : ByteArray} {k : Nat} (h : SameTo s t k) (h1 : k < s.size) (h2 : k < t.size) (e : s[k] = t[k]) : SameTo s t (k + 1) := by
  intro j hj
  rcases Nat.lt_or_ge j k with hl | hl
  · exact h j hl
  · obtain rfl : j = k := by omega
    rw [List.getElem?_eq_getElem (by simpa using h1), List.getElem?_eq_getElem (by simpa using h2)]
    exact congrArg some e

theorem before_at {s t : ByteArray} {k : Nat} (h : SameTo s t k) (h1 : k < s.size) (h2 : k < t.size) (e : s[k] ≠ t[k]) : beforeS s t = decide ((s[k]).toNat < (t[k]).toNat) := by
  have h1' : k < s.data.toList.length := by simpa using h1
  have h2' : k < t.data.toList.length := by simpa using h2
  unfold beforeS
  rw [beforeL_drop _ _ k (by omega) (by omega) h, List.drop_eq_getElem_cons h1', List.drop_eq_getElem_cons h2', beforeL]
  exact if_neg e

theorem before_end {s t : ByteArray} {k : Nat} (h : SameTo s t k) (h1 : k ≤ s.size) (h2 : k ≤ t.size) (e : k = s.size ∨ k = t.size) : beforeS s t = decide (s.size < t.size) := by
  have h1' : s.data.toList.length = s.size := by simp
  have h2' : t.data.toList.length = t.size := by simp
  unfold beforeS
  rw [beforeL_drop _ _ k (by omega) (by omega) h]
  rcases e with e | e
  · rw [List.drop_of_length_le (by omega)]
    rcases Nat.lt_or_ge k t.size with hl | hl
    · rw [List.drop_eq_getElem_cons (by omega)]
      simp [beforeL]; omega
    · rw [List.drop_of_length_le (by omega)]
      simp [beforeL]; omega
  · rw [show t.data.toList.drop k = [] from List.drop_of_length_le (by omega)]
    have hd : decide (s.size < t.size) = false := by simp; omega
    rw [hd]
    cases s.data.toList.drop k <;> rfl
end

section
set_option linter.unusedSimpArgs false
set_option linter.unusedVariables false
open Go.RowKit Go.Lib

set_option maxRecDepth 100000 in
set_option maxHeartbeats 1000000 in
theorem routeRight_any (n : Int) (w : World) (hn : I64 n) :
    Calls Try.prog 31 #[.int .i64 n] w fun e w' => e = .returned (.bool (okSt n)) ∧ w = w' := by
  obtain ⟨hn1, hn2⟩ := hn
  by_cases h1 : 1 ≤ n
  · by_cases h2 : n ≤ 64
    · obtain ⟨k, rfl⟩ := Int.eq_ofNat_of_zero_le (show 0 ≤ n by omega)
      have hq := st_and k (by omega) (by omega)
      generalize okSt (k : Int) = b at hq
      go_enter Try.func31, Try.ntmps31
      go_wp2
      go_ret
      exact ⟨rfl, rfl⟩
    · have hb : okSt n = false := by
        cases hb : okSt n with
        | false => rfl
        | true => exact absurd (okSt_bd n hb).2 h2
      rw [hb]
      go_enter Try.func31, Try.ntmps31
      go_wp2
      go_ret
      exact ⟨rfl, rfl⟩
  · have hb : okSt n = false := by
      cases hb : okSt n with
      | false => rfl
      | true => exact absurd (okSt_bd n hb).1 h1
    rw [hb]
    go_enter Try.func31, Try.ntmps31
    go_wp2
    go_ret
    exact ⟨rfl, rfl⟩

set_option maxRecDepth 100000 in
set_option maxHeartbeats 1000000 in
theorem nodeRight_any (c : Cfg) (w : World) (hc : c.ok) :
    Calls Try.prog 14 #[cfgV c] w fun e w' => e = .returned (.int .i64 (cfgE c)) ∧ Below w.heap.size w w' := by
  obtain ⟨st, sa, lo, hi⟩ := c
  obtain ⟨h1, h2, h3, h4⟩ := hc
  have H1 := Lib.hid h1
  simp only [I64] at h1 h2 h3 h4
  unfold cfgV
  cases hb : okSt st with
  | false =>
    have hf : cfgE ⟨st, sa, lo, hi⟩ = 1 := by simp [cfgE, cfgB, hb]
    rw [hf]
    have Hb := Lib.hid hb
    clear hb hf
    go_enter Try.func14, Try.ntmps14
    go_wp2_with (go_at_call 31; refine (routeRight_any _ _ H1.out).mono ?_; rw [Hb.out]; rintro e w' ⟨rfl, rfl⟩)
    all_goals
      go_ret
      exact ⟨rfl, (Below.refl _ _).alloc (Nat.le_refl _) _⟩
  | true =>
    have Hb := Lib.hid hb
    clear hb
    go_enter Try.func14, Try.ntmps14
    go_wp2_with (go_at_call 31; refine (routeRight_any _ _ H1.out).mono ?_; rw [Hb.out]; rintro e w' ⟨rfl, rfl⟩)
    all_goals
      go_ret
      refine ⟨ret_int ?_, (Below.refl _ _).alloc (Nat.le_refl _) _⟩
      simp only [cfgE, cfgB, Hb.out, Bool.true_and, decide_eq_true_eq]
      split <;> omega

set_option maxRecDepth 100000 in
set_option maxHeartbeats 1000000 in
theorem seriesRight_any (t v : Int) (w : World) :
    Calls Try.prog 17 #[.int .i64 t, .int .i64 v] w fun e w' => e = .returned (.int .i64 (serE t v)) ∧ w = w' := by
  go_enter Try.func17, Try.ntmps17
  go_wp2
  all_goals
    go_ret
    refine ⟨ret_int ?_, rfl⟩
    unfold serE
    repeat' split
    all_goals omega

/-- store.Check: what is wrong with a call. -/
theorem chk_kinds (c : CallD) : c.kind = 1 ∨ c.kind = 2 ∨ c.kind = 3 ∨ c.kind = 4 ∨ c.kind = 5 ∨ c.kind = 6 ∨ c.kind = 7 ∨ c.kind = 8 ∨ (c.kind < 1 ∨ 8 < c.kind) := by omega

/-- A call of a kind. -/
def callK (k : Int) (id : ByteArray) (tick val handle a b tg tol win hold : Int) : CallD := ⟨k, id, tick, val, handle, ⟨a, b, tg, tol, win, hold⟩⟩

section
variable (id : ByteArray) (tick val handle a b tg tol win hold : Int) (w : World)

end
end

end Go.Proofs.Ytfegielnmdppgaa
