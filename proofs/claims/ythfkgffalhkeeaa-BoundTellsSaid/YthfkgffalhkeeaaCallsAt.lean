/- Programs of calls in memory; sums over them. -/
import Derived.Test.YthfkgffalhkeeaaRefOps
namespace Go.Proofs.Ythfkgffalhkeeaa
open Go.RowKit Go.Lib

def CallAt (w : World) (b o : Nat) (x : CallD) : Prop := x.ok ∧ ∀ j u, (callCells x)[j]? = some u → w.cell? ⟨b, o + j, none⟩ = some u

def CallsAt (w : World) (v : Value) (xs : List CallD) : Prop :=
  ∃ A c, v = .slice A xs.length c ∧ (0 < xs.length → ∃ b o, A = some ⟨b, o, none⟩ ∧ b < w.heap.size ∧ ∀ k x, xs[k]? = some x → CallAt w b (o + k * 11) x)

def ProgsAt (w : World) (v : Value) (ps : List (List CallD)) : Prop :=
  ∃ A c, v = .slice A ps.length c ∧ (0 < ps.length → ∃ b o, A = some ⟨b, o, none⟩ ∧ b < w.heap.size ∧ ∀ k xs, ps[k]? = some xs → ∃ u, w.cell? ⟨b, o + k, none⟩ = some u ∧ CallsAt w u xs)

theorem CallsAt.below {w w' : World} {v : Value} {xs : List CallD} (h : CallsAt w v xs) (hb : Below w.heap.size w w') : CallsAt w' v xs := by
  obtain ⟨A, c, hv, h⟩ := h
  refine ⟨A, c, hv, fun hn => ?_⟩
  obtain ⟨b, o, hA, hlt, h⟩ := h hn
  exact ⟨b, o, hA, Nat.lt_of_lt_of_le hlt hb.size, fun k x hk => ⟨(h k x hk).1, fun j u hu => (hb.cell (p := ⟨b, _, none⟩) hlt).trans ((h k x hk).2 j u hu)⟩⟩

theorem ProgsAt.below {w w' : World} {v : Value} {ps : List (List CallD)} (h : ProgsAt w v ps) (hb : Below w.heap.size w w') : ProgsAt w' v ps := by
  obtain ⟨A, c, hv, h⟩ := h
  refine ⟨A, c, hv, fun hn => ?_⟩
  obtain ⟨b, o, hA, hlt, h⟩ := h hn
  refine ⟨b, o, hA, Nat.lt_of_lt_of_le hlt hb.size, fun k xs hk => ?_⟩
  obtain ⟨u, hu, hc⟩ := h k xs hk
  exact ⟨u, (hb.cell (p := ⟨b, _, none⟩) hlt).trans hu, hc.below hb⟩

/-- The cell of a place. -/
theorem ProgsAt.at_ {w : World} {A : Option Addr} {c n : Nat} {ps : List (List CallD)} (h : ProgsAt w (.slice A n c) ps) {k : Nat} (hk : k < ps.length) :
    ∃ b o A' c', A = some ⟨b, o, none⟩ ∧ b < w.heap.size ∧ w.cell? ⟨b, o + k, none⟩ = some (.slice A' (ps[k]).length c') ∧ CallsAt w (.slice A' (ps[k]).length c') ps[k] := by
  obtain ⟨A1, c1, hv, h⟩ := h
  injection hv with e1 e2 e3
  subst e1
  obtain ⟨b, o, hA, hlt, h⟩ := h (by omega)
  obtain ⟨u, hu, A', c', rfl, hc⟩ := h k ps[k] (List.getElem?_eq_getElem hk)
  exact ⟨b, o, A', c', hA, hlt, hu, A', c', rfl, hc⟩

theorem CallsAt.at_ {w : World} {A : Option Addr} {c n : Nat} {xs : List CallD} (h : CallsAt w (.slice A n c) xs) {k : Nat} (hk : k < xs.length) :
    ∃ b o, A = some ⟨b, o, none⟩ ∧ b < w.heap.size ∧ CallAt w b (o + k * 11) xs[k] := by
  obtain ⟨A1, c1, hv, h⟩ := h
  injection hv with e1 e2 e3
  subst e1
  obtain ⟨b, o, hA, hlt, h⟩ := h (by omega)
  exact ⟨b, o, hA, hlt, h k _ (List.getElem?_eq_getElem hk)⟩

theorem ProgsAt.len {w : World} {A : Option Addr} {c n : Nat} {ps : List (List CallD)} (h : ProgsAt w (.slice A n c) ps) : n = ps.length := by
  obtain ⟨_, _, hv, _⟩ := h
  injection hv

/-! ### Sums -/
def sumC (f : CallD → Nat) (xs : List CallD) : Nat := (xs.map f).sum
def sumP (f : CallD → Nat) (ps : List (List CallD)) : Nat := (ps.map (sumC f)).sum

theorem sumC_take (f : CallD → Nat) (xs : List CallD) (k : Nat) (h : k < xs.length) : sumC f (xs.take (k + 1)) = sumC f (xs.take k) + f xs[k] := by
  unfold sumC
  rw [List.take_succ_eq_append_getElem h, List.map_append, List.sum_append]
  simp only [List.map_cons, List.map_nil, List.sum_cons, List.sum_nil, Nat.add_zero]
theorem sumP_take (f : CallD → Nat) (ps : List (List CallD)) (k : Nat) (h : k < ps.length) : sumP f (ps.take (k + 1)) = sumP f (ps.take k) + sumC f ps[k] := by
  unfold sumP
  rw [List.take_succ_eq_append_getElem h, List.map_append, List.sum_append]
  simp only [List.map_cons, List.map_nil, List.sum_cons, List.sum_nil, Nat.add_zero]
theorem sumC_le (f : CallD → Nat) (m : Nat) (hf : ∀ x, f x ≤ m) (xs : List CallD) : sumC f xs ≤ xs.length * m := by
  induction xs with
  | nil => simp [sumC]
  | cons a l ih =>
    have := hf a
    simp only [sumC, List.map_cons, List.sum_cons, List.length_cons] at ih ⊢
    rw [Nat.succ_mul]; omega
theorem sumP_le (f : CallD → Nat) (m : Nat) (hf : ∀ x, f x ≤ m) (ps : List (List CallD)) (h8 : ∀ xs ∈ ps, xs.length ≤ 8) : sumP f ps ≤ ps.length * (8 * m) := by
  induction ps with
  | nil => simp [sumP]
  | cons a l ih =>
    have h1 := sumC_le f m hf a
    have h2 := h8 a (by simp)
    have h3 : a.length * m ≤ 8 * m := Nat.mul_le_mul_right _ h2
    have h4 := ih (fun xs hx => h8 xs (by simp [hx]))
    simp only [sumP, List.map_cons, List.sum_cons, List.length_cons] at h4 ⊢
    rw [Nat.succ_mul]; omega

/-- Small enough to look at. -/
def lightB (ps : List (List CallD)) (wk : Int) : Bool := decide (∀ xs ∈ ps, xs.length ≤ 8) && (decide (ps.length ≤ 5) && decide (wk ≤ 4))

set_option maxRecDepth 100000 in
set_option maxHeartbeats 1000000 in
theorem light_any (v : Value) (ps : List (List CallD)) (wk : Int) (w : World) (hp : ProgsAt w v ps) (hm : ps.length ≤ maxLen) (hx : ∀ xs ∈ ps, xs.length ≤ maxLen) :
    Calls Try.prog 18 #[v, .int .i64 wk, .slice none 0 0] w fun e w' => e = .returned (.bool (lightB ps wk)) ∧ w = w' := by
  have hmm : ps.length ≤ 9223372036854775807 := hm
  obtain ⟨A, c, rfl, hp0⟩ := id hp
  clear hp0
  go_enter Try.func18, Try.ntmps18
  go_wp2
  go_loop [7] (fun i => ∃ k : Nat, k ≤ ps.length ∧ i = .int .i64 k ∧ ∀ j (h : j < ps.length), j < k → (ps[j]).length ≤ 8) (fun i => ps.length - (intOf i).toNat)
  case atStart => exact ⟨0, Nat.zero_le _, rfl, fun j _ hj => absurd hj (by omega)⟩
  case round =>
    obtain ⟨k, hk, rfl, hle⟩ := hrel
    by_cases hlt : k < ps.length
    · obtain ⟨b, o, A', c', rfl, hb, hcell, _⟩ := hp.at_ hlt
      have hml : (ps[k]).length ≤ 9223372036854775807 := hx _ (List.getElem_mem hlt)
      by_cases h8 : 8 < (ps[k]).length
      · have hf : lightB ps wk = false := by
          have : ¬ ∀ xs ∈ ps, xs.length ≤ 8 := fun h => absurd (h _ (List.getElem_mem hlt)) (by omega)
          simp only [lightB, decide_eq_false this, Bool.false_and]
        have Hf := Lib.hid hf
        have Hle := Lib.hid hle
        clear hf hle hp
        go_wp2
        go_ret
        exact ⟨by rw [Hf.out]; rfl, rfl⟩
      · have hle' : ∀ j (h : j < ps.length), j < k + 1 → (ps[j]).length ≤ 8 := by
          intro j hj hjk
          rcases Nat.lt_or_ge j k with h | h
          · exact hle j hj h
          · obtain rfl : j = k := by omega
            omega
        have Hle := Lib.hid hle'
        clear hle hle' hp
        go_wp2
        go_round
        case rel => exact ⟨k + 1, hlt, by go_num, Hle.out⟩
        case measure => simp [intOf]; omega
    · have hall : ∀ xs ∈ ps, xs.length ≤ 8 := by
        intro xs hxs
        obtain ⟨j, hj, rfl⟩ := List.getElem_of_mem hxs
        exact hle j hj (by omega)
      have hf : lightB ps wk = (decide (ps.length ≤ 5) && decide (wk ≤ 4)) := by simp only [lightB, decide_eq_true hall, Bool.true_and]
      have Hf := Lib.hid hf
      clear hf hall hle hp
      go_wp2
      all_goals
        go_ret
        refine ⟨ret_bool ?_, rfl⟩
        rw [Hf.out, Bool.eq_iff_iff]
        simp only [Bool.and_eq_true, decide_eq_true_eq, Bool.false_eq_true, false_iff, true_iff]
        omega

/-! ### Check -/
def progsE (c : Cfg) (ps : List (List CallD)) (wk : Int) : Int :=
  if cfgB c = false ∨ wk < 0 ∨ 32 < wk ∨ (ps.length : Int) + wk < 1 ∨ 32 < (ps.length : Int) + wk then 1 else 0

/-- With lists of at most eight calls nothing is too long. -/
theorem light_le {ps : List (List CallD)} {wk : Int} (h : lightB ps wk = true) : (∀ xs ∈ ps, xs.length ≤ 8) ∧ ps.length ≤ 5 ∧ wk ≤ 4 := by
  simp only [lightB, Bool.and_eq_true, decide_eq_true_eq] at h
  exact h

set_option maxRecDepth 100000 in
set_option maxHeartbeats 1000000 in
theorem callsCheck_any (c : Cfg) (v : Value) (ps : List (List CallD)) (wk : Int) (w : World) (hp : ProgsAt w v ps) (hc : c.ok) (hwk : I64 wk) (h5 : ps.length ≤ 5) (h4 : wk ≤ 4) (h8 : ∀ xs ∈ ps, xs.length ≤ 8) :
    Calls Try.prog 32 #[cfgV c, v, .int .i64 wk] w fun e w' => e = .returned (.int .i64 (progsE c ps wk)) ∧ Below w.heap.size w w' := by
  obtain ⟨A, cc, rfl, hp0⟩ := id hp
  clear hp0
  obtain ⟨st, sa, lo, hi⟩ := c
  simp only [I64] at hwk
  cases hB : cfgB ⟨st, sa, lo, hi⟩ with
  | false =>
    have hr : cfgE ⟨st, sa, lo, hi⟩ = 1 := by simp [cfgE, hB]
    have hf : progsE ⟨st, sa, lo, hi⟩ ps wk = 1 := by simp [progsE, hB]
    rw [hf]
    have HR := Lib.hid hr
    clear hr hf hB h8 hp
    unfold cfgV
    go_enter Try.func32, Try.ntmps32
    go_wp2_with (go_at_call 42; refine (nodeRight_any ⟨st, sa, lo, hi⟩ _ hc).mono ?_; rw [HR.out]; rintro e w1 ⟨rfl, hb1⟩)
    go_ret
    exact ⟨rfl, bthen (balloc (Below.refl _ _) _) hb1⟩
  | true =>
    have hr : cfgE ⟨st, sa, lo, hi⟩ = 0 := by simp [cfgE, hB]
    have HR := Lib.hid hr
    have hf : progsE ⟨st, sa, lo, hi⟩ ps wk = if wk < 0 ∨ 32 < wk ∨ (ps.length : Int) + wk < 1 ∨ 32 < (ps.length : Int) + wk then 1 else 0 := by simp [progsE, hB]
    rw [hf]
    clear hr hf hB
    unfold cfgV
    have h5i : (ps.length : Int) ≤ 5 := by omega
    by_cases hw0 : wk < 0
    · rw [if_pos (.inl hw0)]
      clear h8 hp
      go_enter Try.func32, Try.ntmps32
      go_wp2_with (go_at_call 42; refine (nodeRight_any ⟨st, sa, lo, hi⟩ _ hc).mono ?_; rw [HR.out]; rintro e w1 ⟨rfl, hb1⟩)
      go_ret
      exact ⟨rfl, bthen (balloc (Below.refl _ _) _) hb1⟩
    · by_cases hw1 : (ps.length : Int) + wk < 1
      · rw [if_pos (.inr (.inr (.inl hw1)))]
        clear h8 hp
        go_enter Try.func32, Try.ntmps32
        go_wp2_with (go_at_call 42; refine (nodeRight_any ⟨st, sa, lo, hi⟩ _ hc).mono ?_; rw [HR.out]; rintro e w1 ⟨rfl, hb1⟩)
        go_ret
        exact ⟨rfl, bthen (balloc (Below.refl _ _) _) hb1⟩
      · rw [if_neg (by omega)]
        have Hp := Lib.hid hp
        have H8 := Lib.hid h8
        clear hp h8
        go_enter Try.func32, Try.ntmps32
        go_wp2_with (go_at_call 42; refine (nodeRight_any ⟨st, sa, lo, hi⟩ _ hc).mono ?_; rw [HR.out]; rintro e w1 ⟨rfl, hb1⟩)
        have hpw : ProgsAt w1 (.slice A ps.length cc) ps := (Hp.out.below (balloc (Below.refl _ _) _)).below hb1
        have Hpw := Lib.hid hpw
        clear hpw
        go_loop [9, 37] (fun _ i => ∃ k : Nat, k ≤ ps.length ∧ i = .int .i64 k) (fun _ i => ps.length - (intOf i).toNat)
        case atStart => exact ⟨0, Nat.zero_le _, rfl⟩
        case round =>
          obtain ⟨k, hk, rfl⟩ := hrel
          by_cases hlt : k < ps.length
          · obtain ⟨b, o, A', c', rfl, hb, hcell, _⟩ := Hpw.out.at_ hlt
            have hml : (ps[k]).length ≤ 8 := H8.out _ (List.getElem_mem hlt)
            go_wp2
            go_round
            case rel => exact ⟨k + 1, hlt, by go_num⟩
            case measure => simp [intOf]; omega
          · go_wp2
            go_ret
            exact ⟨rfl, bthen (balloc (Below.refl _ _) _) hb1⟩

set_option maxRecDepth 100000 in
set_option maxHeartbeats 1000000 in
theorem ref29Check_any (c : Cfg) (v : Value) (ps : List (List CallD)) (wk : Int) (w : World) (hp : ProgsAt w v ps) (hwk : I64 wk) (h5 : ps.length ≤ 5) (h4 : wk ≤ 4) (h8 : ∀ xs ∈ ps, xs.length ≤ 8) :
    Calls Try.prog 34 #[cfgV c, v, .int .i64 wk] w fun e w' => e = .returned (.int .i64 (progsE c ps wk)) ∧ Below w.heap.size w w' := by
  obtain ⟨A, cc, rfl, hp0⟩ := id hp
  clear hp0
  obtain ⟨st, sa, lo, hi⟩ := c
  simp only [I64] at hwk
  cases hB : cfgB ⟨st, sa, lo, hi⟩ with
  | false =>
    have hf : progsE ⟨st, sa, lo, hi⟩ ps wk = 1 := by simp [progsE, hB]
    rw [hf]
    have HR := Lib.hid hB
    clear hf hB h8 hp
    unfold cfgV
    go_enter Try.func34, Try.ntmps34
    go_wp2_with (go_at_call 44; refine (ref17Right_any ⟨st, sa, lo, hi⟩ _).mono ?_; rw [HR.out]; rintro e w1 ⟨rfl, hb1⟩)
    go_ret
    exact ⟨rfl, bthen (balloc (Below.refl _ _) _) hb1⟩
  | true =>
    have HR := Lib.hid hB
    have hf : progsE ⟨st, sa, lo, hi⟩ ps wk = if wk < 0 ∨ 32 < wk ∨ (ps.length : Int) + wk < 1 ∨ 32 < (ps.length : Int) + wk then 1 else 0 := by simp [progsE, hB]
    rw [hf]
    clear hf hB
    unfold cfgV
    have h5i : (ps.length : Int) ≤ 5 := by omega
    by_cases hw0 : wk < 0
    · rw [if_pos (.inl hw0)]
      clear h8 hp
      go_enter Try.func34, Try.ntmps34
      go_wp2_with (go_at_call 44; refine (ref17Right_any ⟨st, sa, lo, hi⟩ _).mono ?_; rw [HR.out]; rintro e w1 ⟨rfl, hb1⟩)
      go_ret
      exact ⟨rfl, bthen (balloc (Below.refl _ _) _) hb1⟩
    · by_cases hw1 : (ps.length : Int) + wk < 1
      · rw [if_pos (.inr (.inr (.inl hw1)))]
        clear h8 hp
        go_enter Try.func34, Try.ntmps34
        go_wp2_with (go_at_call 44; refine (ref17Right_any ⟨st, sa, lo, hi⟩ _).mono ?_; rw [HR.out]; rintro e w1 ⟨rfl, hb1⟩)
        go_ret
        exact ⟨rfl, bthen (balloc (Below.refl _ _) _) hb1⟩
      · rw [if_neg (by omega)]
        have Hp := Lib.hid hp
        have H8 := Lib.hid h8
        clear hp h8
        go_enter Try.func34, Try.ntmps34
        go_wp2_with (go_at_call 44; refine (ref17Right_any ⟨st, sa, lo, hi⟩ _).mono ?_; rw [HR.out]; rintro e w1 ⟨rfl, hb1⟩)
        have hpw : ProgsAt w1 (.slice A ps.length cc) ps := (Hp.out.below (balloc (Below.refl _ _) _)).below hb1
        have Hpw := Lib.hid hpw
        clear hpw
        go_loop [7] (fun i => ∃ k : Nat, k ≤ ps.length ∧ i = .int .i64 k) (fun i => ps.length - (intOf i).toNat)
        case atStart => exact ⟨0, Nat.zero_le _, rfl⟩
        case round =>
          obtain ⟨k, hk, rfl⟩ := hrel
          by_cases hlt : k < ps.length
          · obtain ⟨b, o, A', c', rfl, hb, hcell, _⟩ := Hpw.out.at_ hlt
            have hml : (ps[k]).length ≤ 8 := H8.out _ (List.getElem_mem hlt)
            go_wp2
            go_round
            case rel => exact ⟨k + 1, hlt, by go_num⟩
            case measure => simp [intOf]; omega
          · go_wp2
            go_ret
            exact ⟨rfl, bthen (balloc (Below.refl _ _) _) hb1⟩

end Go.Proofs.Ythfkgffalhkeeaa
