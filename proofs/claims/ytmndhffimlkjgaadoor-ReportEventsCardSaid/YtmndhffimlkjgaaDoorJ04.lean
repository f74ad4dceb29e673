/- Walks of flywheelref03's place, Id, Key, Before; A world gets a name. -/
import Derived.Test.YtmndhffimlkjgaaDoorJ03
import Derived.Test.YtmndhffimlkjgaaDoorJ01
namespace Go.Proofs.YtmndhffimlkjgaaDoor

section
set_option linter.unusedSimpArgs false
set_option linter.unusedVariables false
open Go.RowKit Go.Lib

def lettersL : List UInt8 := [45, 46, 48, 49, 50, 51, 52, 53, 54, 55, 56, 57, 95, 97, 98, 99, 100, 101, 102, 103, 104, 105, 106, 107, 108, 109, 110, 111, 112, 113, 114, 115, 116, 117, 118, 119, 120, 121, 122]

theorem letters_code : ∀ i, i < 39 → codeB (lettersL.getD i 0) = i + 1 := by decide


/-- A byte that is none of the first letters has a greater number, or none. -/
theorem place_none (c : UInt8) (h : ∀ j, j < 39 → lettersL.getD j 0 ≠ c) : codeB c = 0 := by
  rcases Nat.eq_zero_or_pos (codeB c) with h0 | h0
  · exact h0
  · have hle := codeB_le c
    have e := letters_code (codeB c - 1) (by omega)
    refine absurd ?_ (h (codeB c - 1) (by omega))
    have hok : okB (lettersL.getD (codeB c - 1) 0) = true := by rw [okB, decide_eq_true_eq]; omega
    exact codeB_inj _ _ hok (by omega)

def lettersS : ByteArray := ⟨lettersL.toArray⟩
theorem lettersS_get (k : Nat) (h : k < lettersS.size) : lettersS[k] = lettersL.getD k 0 := by
  have h' : k < lettersL.length := h
  simp only [List.getD, List.getElem?_eq_getElem h', Option.getD_some]
  rfl

set_option maxRecDepth 100000 in
set_option maxHeartbeats 1000000 in
theorem place_any (c : UInt8) (w : World) :
    Calls Tryd.prog 54 #[.int .u8 (c.toNat : Nat)] w fun e w' => e = .returned (.int .u64 (codeB c : Nat)) ∧ w = w' := by
  go_enter Tryd.func54, Tryd.ntmps54
  go_wp2
  go_loop [3] (fun i => ∃ k : Nat, k ≤ 39 ∧ i = .int .i64 k ∧ ∀ j, j < k → lettersL.getD j 0 ≠ c) (fun i => 39 - (intOf i).toNat)
  case atStart => exact ⟨0, by omega, rfl, fun j hj => absurd hj (by omega)⟩
  case round =>
    obtain ⟨k, hk, rfl, hno⟩ := hrel
    by_cases hlt : k < 39
    · have Hno := Lib.hid hno
      have hsz : k < lettersS.size := hlt
      clear hno
      go_wp2
      · have hq : (((lettersS[k].toNat : Nat) : Int) == ((c.toNat : Nat) : Int)) = true := by assumption
        have hq' : lettersS[k] = c := UInt8.toNat_inj.1 (Int.ofNat.inj (beq_iff_eq.1 hq))
        rw [lettersS_get k hsz] at hq'
        go_ret
        refine ⟨ret_int ?_, rfl⟩
        rw [← hq', letters_code k hlt]
        rfl
      · have hq : (((lettersS[k].toNat : Nat) : Int) == ((c.toNat : Nat) : Int)) = false := by assumption
        have hq' : lettersS[k] ≠ c := fun e => by
          have := beq_eq_false_iff_ne.1 hq
          exact this (congrArg (fun b : UInt8 => ((b.toNat : Nat) : Int)) e)
        rw [lettersS_get k hsz] at hq'
        go_round
        case rel =>
          refine ⟨k + 1, by omega, by go_num, fun j hj => ?_⟩
          rcases Nat.lt_or_ge j k with h | h
          · exact Hno.out j h
          · obtain rfl : j = k := by omega
            exact hq'
        case measure => simp [intOf]; omega
    · obtain rfl : k = 39 := by omega
      have h0 := place_none c hno
      clear hno
      go_wp2
      go_ret
      exact ⟨rfl, rfl⟩

set_option maxRecDepth 100000 in
set_option maxHeartbeats 1000000 in
theorem id_any (s : ByteArray) (w : World) (hm : s.size ≤ maxLen) :
    Calls Tryd.prog 35 #[.string s] w fun e w' => e = .returned (.bool (idS s)) ∧ w = w' := by
  unfold maxLen at hm
  by_cases h1 : s.size < 1
  · rw [idS_len s (.inl h1)]
    go_enter Tryd.func35, Tryd.ntmps35
    go_wp2
    go_ret
    exact ⟨rfl, rfl⟩
  · by_cases h2 : 20 < s.size
    · rw [idS_len s (.inr h2)]
      go_enter Tryd.func35, Tryd.ntmps35
      go_wp2
      go_ret
      exact ⟨rfl, rfl⟩
    · go_enter Tryd.func35, Tryd.ntmps35
      go_wp2
      go_loop [3] (fun i => ∃ k : Nat, k ≤ s.size ∧ i = .int .i64 k ∧ OkTo s k) (fun i => s.size - (intOf i).toNat)
      case atStart => exact ⟨0, Nat.zero_le _, rfl, okTo_zero s⟩
      case round =>
        obtain ⟨k, hk, rfl, hok⟩ := hrel
        by_cases hlt : k < s.size
        · cases hb : okB s[k] with
          | true =>
            have hok' := okTo_succ s k hok hlt hb
            have hc : ((codeB s[k] : Int) == 0) = false := by simpa [okB] using hb
            have Hok' := Lib.hid hok'
            clear hb hok hok'
            go_wp2_with (go_at_call 54; refine (place_any _ _).mono ?_; rintro e w' ⟨rfl, rfl⟩)
            go_round
            case rel => exact ⟨k + 1, hlt, by go_num, Hok'.out⟩
            case measure => simp [intOf]; omega
          | false =>
            have hf := idS_bad s k hlt hb
            have hc : ((codeB s[k] : Int) == 0) = true := by simpa [okB] using hb
            have Hf := Lib.hid hf
            clear hb hok hf
            go_wp2_with (go_at_call 54; refine (place_any _ _).mono ?_; rintro e w' ⟨rfl, rfl⟩)
            go_ret
            rw [Hf.out]
            exact ⟨rfl, rfl⟩
        · obtain rfl : k = s.size := by omega
          have hf := idS_all s (by omega) (by omega) hok
          have Hf := Lib.hid hf
          clear hf hok
          go_wp2
          go_ret
          rw [Hf.out]
          exact ⟨rfl, rfl⟩

/-- A key as a value. -/
def keyS (s : ByteArray) : Value := keyV (hiN s.data.toList) (loN s.data.toList)

theorem keyN_lt9 (l : List UInt8) (a n : Nat) (h : n ≤ 9) : keyN l a n < 18014398509481984 :=
  Nat.lt_of_lt_of_le (keyN_lt l a n) (Nat.pow_le_pow_right (n := 64) (j := 9) (by decide) h)

set_option maxRecDepth 100000 in
set_option maxHeartbeats 1000000 in
theorem refKey_any (s : ByteArray) (w : World) (hm : s.size ≤ maxLen) (hid : idS s = true) :
    Calls Tryd.prog 56 #[.string s] w fun e w' => e = .returned (keyS s) ∧ Below w.heap.size w w' := by
  have Hid := Lib.hid hid
  unfold keyS keyV
  unfold maxLen at hm
  obtain ⟨hs1, hs2, _⟩ := idS_okTo s hid
  clear hid
  go_enter Tryd.func56, Tryd.ntmps56
  go_wp2_with (go_at_call 35; refine (id_any _ _ hm).mono ?_; rw [Hid.out]; rintro e w' ⟨rfl, rfl⟩)
  go_loopw [4, 5] (fun i _ w' => ∃ k : Nat, k ≤ 20 ∧ i = .int .i64 k ∧ w' = (w.alloc (.cells #[.int .u64 0, .int .u64 0] 40)).alloc (.cells #[.int .u64 (keyN s.data.toList 0 (min k 10) : Nat), .int .u64 (keyN s.data.toList 10 (k - 10) : Nat)] 40)) (fun i _ _ => 20 - (intOf i).toNat)
  case atStart => exact ⟨0, by omega, rfl, rfl⟩
  case round =>
    obtain ⟨k, hk, rfl, rfl⟩ := hrel
    by_cases hlt : k < 20
    · have d1 := dig_le s.data.toList k
      have hgd : ∀ h : k < s.size, dig s.data.toList k = codeB (s[k]'h) := fun h => by rw [dig_at _ _ (by simpa using h)]; rfl
      by_cases h10 : k < 10
      · have hst : keyN s.data.toList 0 (min (k + 1) 10) = keyN s.data.toList 0 (min k 10) * 64 + dig s.data.toList k := by
          rw [Nat.min_eq_left (by omega), Nat.min_eq_left (by omega), keyN, Nat.zero_add]
        have n3 := keyN_lt9 s.data.toList 0 (min k 10) (by omega)
        have e2 : k - 10 = k + 1 - 10 := by omega
        have E2 := Lib.hid e2
        clear e2
        by_cases hin : k < s.size
        · rw [hgd hin] at hst d1
          have Hst := Lib.hid hst
          clear hst hgd
          go_wp2_with (go_at_call 54; refine (place_any _ _).mono ?_; rintro e w' ⟨rfl, rfl⟩)
          go_roundw
          case rel =>
            refine ⟨k + 1, by omega, by go_num, ?_⟩
            rw [Hst.out, E2.out]
            simp
          case measure => simp [intOf]; omega
        · have hd0 : dig s.data.toList k = 0 := dig_out _ _ (by simp; omega)
          rw [hd0] at hst
          have Hst := Lib.hid hst
          clear hst hd0 hgd
          go_wp2
          go_roundw
          case rel =>
            refine ⟨k + 1, by omega, by go_num, ?_⟩
            rw [Hst.out, E2.out]
            simp
          case measure => simp [intOf]; omega
      · have hst : keyN s.data.toList 10 (k + 1 - 10) = keyN s.data.toList 10 (k - 10) * 64 + dig s.data.toList k := by
          rw [show k + 1 - 10 = (k - 10) + 1 by omega, keyN, show 10 + (k - 10) = k by omega]
        have n3 := keyN_lt9 s.data.toList 10 (k - 10) (by omega)
        have e2 : min k 10 = min (k + 1) 10 := by omega
        have E2 := Lib.hid e2
        clear e2
        by_cases hin : k < s.size
        · rw [hgd hin] at hst d1
          have Hst := Lib.hid hst
          clear hst hgd
          go_wp2_with (go_at_call 54; refine (place_any _ _).mono ?_; rintro e w' ⟨rfl, rfl⟩)
          go_roundw
          case rel =>
            refine ⟨k + 1, by omega, by go_num, ?_⟩
            rw [Hst.out, E2.out]
            simp
          case measure => simp [intOf]; omega
        · have hd0 : dig s.data.toList k = 0 := dig_out _ _ (by simp; omega)
          rw [hd0] at hst
          have Hst := Lib.hid hst
          clear hst hd0 hgd
          go_wp2
          go_roundw
          case rel =>
            refine ⟨k + 1, by omega, by go_num, ?_⟩
            rw [Hst.out, E2.out]
            simp
          case measure => simp [intOf]; omega
    · obtain rfl : k = 20 := by omega
      go_wp2
      exact bodyPost_ret (v := .agg #[.int .u64 (hiN s.data.toList : Nat), .int .u64 (loN s.data.toList : Nat)]) (by simp [results, Tryd.results56, go_sem]; exact ⟨rfl, rfl⟩) rfl
        ⟨rfl, ((Below.refl _ _).alloc (Nat.le_refl _) _).alloc (by simp) _⟩

/-! ### Before: the order of bytes -/

def beforeL : List UInt8 → List UInt8 → Bool
  | a :: l, b :: m => if a = b then beforeL l m else decide (a.toNat < b.toNat)
  | [], _ :: _ => true
  | _, [] => false

theorem beforeL_cons (a : UInt8) (l m : List UInt8) : beforeL (a :: l) (a :: m) = beforeL l m := by simp [beforeL]

theorem beforeL_drop (l m : List UInt8) : ∀ k, k ≤ l.length → k ≤ m.length → (∀ j, j < k → l[j]? = m[j]?) → beforeL l m = beforeL (l.drop k) (m.drop k) := by
  intro k
  induction k generalizing l m with
  | zero => intros; rfl
  | succ k ih =>
    intro h1 h2 h
    match l, m, h1, h2 with
    | a :: l, b :: m, h1, h2 =>
      have h0 := h 0 (by omega)
      simp at h0
      subst h0
      rw [beforeL_cons, List.drop_succ_cons, List.drop_succ_cons]
      exact ih l m (by simpa using h1) (by simpa using h2) (fun j hj => by simpa using h (j + 1) (by omega))

def beforeS (s t : ByteArray) : Bool := beforeL s.data.toList t.data.toList

def SameTo (s t : ByteArray) (k : Nat) : Prop := ∀ j, j < k → s.data.toList[j]? = t.data.toList[j]?

theorem sameTo_succ {s t : ByteArray} {k : Nat} (h : SameTo s t k) (h1 : k < s.size) (h2 : k < t.size) (e : s[k] = t[k]) : SameTo s t (k + 1) := by
  intro j hj
  rcases Nat.lt_or_ge j k with hl | hl
  · exact h j hl
  · obtain rfl : j = k := by omega
    rw [List.getElem?_eq_getElem (by simpa using h1), List.getElem?_eq_getElem (by simpa using h2)]
    exact congrArg some e

theorem before_at {s t : ByteArray} {k : Nat} (h : SameTo s t k) (h1 : k < s.size) (h2 : k < t.size) (e : s[k] ≠ t[k]) : beforeS s t = decide ((s[k]).toNat < (t[k]).toNat) := by
  have h1' : k < s.data.toList.length := by simpa using h1
  have h2' : k < t.data.toList.length := by simpa using h2
  unfold beforeS
  rw [beforeL_drop _ _ k (by omega) (by omega) h, List.drop_eq_getElem_cons h1', List.drop_eq_getElem_cons h2', beforeL]
  exact if_neg e

theorem before_end {s t : ByteArray} {k : Nat} (h : SameTo s t k) (h1 : k ≤ s.size) (h2 : k ≤ t.size) (e : k = s.size ∨ k = t.size) : beforeS s t = decide (s.size < t.size) := by
  have h1' : s.data.toList.length = s.size := by simp
  have h2' : t.data.toList.length = t.size := by simp
  unfold beforeS
  rw [beforeL_drop _ _ k (by omega) (by omega) h]
  rcases e with e | e
  · rw [List.drop_of_length_le (by omega)]
    rcases Nat.lt_or_ge k t.size with hl | hl
    · rw [List.drop_eq_getElem_cons (by omega)]
      simp [beforeL]; omega
    · rw [List.drop_of_length_le (by omega)]
      simp [beforeL]; omega
  · rw [show t.data.toList.drop k = [] from List.drop_of_length_le (by omega)]
    have hd : decide (s.size < t.size) = false := by simp; omega
    rw [hd]
    cases s.data.toList.drop k <;> rfl
end

section
set_option linter.unusedSimpArgs false
set_option linter.unusedVariables false
open Go.RowKit Go.Lib

theorem calls_named {P : Program} {f : Nat} {args : Array Value} {w : World} {Q : Ending → World → Prop} (h : ∀ W, W = w → Calls P f args W Q) : Calls P f args w Q := h w rfl
theorem name_world {P : Program} {c : Code} {Q : Exit → Act → World → Prop} {a : Act} {w : World} (h : ∀ W, W = w → c.wp P Q a W) : c.wp P Q a w := h w rfl
theorem box_at {W w1 : World} (hb : Below W.heap.size W w1) {B : Nat} {cs : Array Value} {T : TypeId} (hB : W.heap[B]? = some (.cells cs T (0, 0))) : (∀ j, w1.cell? ⟨B, j, none⟩ = cs[j]?) ∧ (∀ j, w1.frozen? ⟨B, j, none⟩ = false) ∧ B < w1.heap.size ∧ w1.heap[B]? = some (.cells cs T (0, 0)) := by
  obtain ⟨h1, h2, h3⟩ := box_cells hb hB
  exact ⟨h1, h2, h3, (hb.block B (Array.getElem?_eq_some_iff.1 hB).1).trans hB⟩
end

end Go.Proofs.YtmndhffimlkjgaaDoor
