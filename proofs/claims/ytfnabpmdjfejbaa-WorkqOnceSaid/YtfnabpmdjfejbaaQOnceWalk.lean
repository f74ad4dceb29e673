/- The walk of WorkqOnce. -/
import Derived.Test.YtfnabpmdjfejbaaQActs
import Derived.Test.YtfnabpmdjfejbaaQRight
namespace Go.Proofs.Ytfnabpmdjfejbaa
set_option linter.unusedSimpArgs false
set_option linter.unusedVariables false
open Go.RowKit Go.Lib

theorem get_keeps {st st' : QSt} {x : Ky} {is : Bool} (h : Keeps st) (hc : (is = false ∧ x = (0, 0) ∧ st' = st ∧ st.front = [] ∧ st.back = []) ∨ ∃ f k, is = true ∧ x = k.1 ∧ (turnK st.front st.back).1 = f ++ [k] ∧ st' = gotQ st f k) : Keeps st' := by
  rcases hc with ⟨_, _, rfl, _⟩ | ⟨f, k, _, _, hf, rfl⟩
  · exact h
  · exact keeps_got h hf
theorem get_small {st st' : QSt} {x : Ky} {is : Bool} {n : Nat} (h : st.small n) (hc : (is = false ∧ x = (0, 0) ∧ st' = st ∧ st.front = [] ∧ st.back = []) ∨ ∃ f k, is = true ∧ x = k.1 ∧ (turnK st.front st.back).1 = f ++ [k] ∧ st' = gotQ st f k) : st'.small (n + 1) := by
  rcases hc with ⟨_, _, rfl, _⟩ | ⟨f, k, _, _, hf, rfl⟩
  · exact h.mono (Nat.le_succ _)
  · exact small_got h hf

set_option maxRecDepth 100000 in
set_option maxHeartbeats 4000000 in
theorem once_walk (v : Value) (l : List ActD) (w : World) (hv : RowIn 3 actC w v l) (hok : ∀ p ∈ l, p.2.ok) (hl : l.length ≤ maxLen) :
    Calls Try.prog 3 #[v] w fun e w' => e = .returned (.bool true) ∧ Below w.heap.size w w' := by
  have hl' : l.length ≤ 9223372036854775807 := hl
  obtain ⟨A, c, rfl, _⟩ := id hv
  by_cases hn : l.length ≤ 80
  · have HV := Lib.hid hv
    have HO := Lib.hid hok
    have q80 : ¬ (80 : Int) < (l.length : Int) := by omega
    clear hv hok hl
    go_enter Try.func3, Try.ntmps3
    go_wp2_with (first
      | (go_at_call 9; refine (qawake_any _).mono ?_; rintro e w1 ⟨rfl, hb1⟩))
    have hq0 : QStep w1 w1.heap.size s0 (w1.alloc (.cells #[.slice none 0 0, .slice none 0 0, .map none, .map none, .bool false] 29)) :=
      ⟨_, queue_new w1 _, fun k hk => hk.elim, fun r hr => by simp at hr, balloc (Below.refl _ _) _, by simp⟩
    go_loopg [13] l.length (fun g s13 wr => ∃ (k : Nat) (st : QSt), k ≤ l.length ∧ l.length - k ≤ g ∧ s13 = .int .i64 k ∧ QStep w1 w1.heap.size st wr ∧ st.small k ∧ Keeps st)
    case atStart => exact ⟨0, s0, Nat.zero_le _, Nat.le_refl _, rfl, hq0, ⟨by decide, by decide, by decide⟩, keeps_start⟩
    case round =>
      clear hq0
      obtain ⟨k, st, hk, hg, rfl, hq, hs, hkeep⟩ := hrel
      have HK := Lib.hid hkeep
      clear hkeep
      have hbw : Below w.heap.size w wr := hb1.trans (hq.base.1.mono hb1.size)
      by_cases hlt : k < l.length
      · obtain ⟨b, o, rfl, hbl, hat⟩ := (HV.out.below hbw).at_ hlt
        have hxok : (l[k]).2.ok := HO.out _ (List.getElem_mem hlt)
        obtain ⟨a, ha⟩ : ∃ a, l[k] = a := ⟨_, rfl⟩
        rw [ha] at hat hxok
        clear ha
        obtain ⟨kd, x⟩ := a
        have c0 := hat 0 _ rfl
        have c1 := hat 1 _ rfl
        have c2 := hat 2 _ rfl
        rw [Nat.add_zero] at c0
        simp only at c0 c1 c2 hxok
        clear hat
        have hk1 : (k : Int) < (l.length : Int) := by omega
        have hk0 : (0 : Int) ≤ (k : Int) := by omega
        by_cases e1 : kd = 1
        · subst e1
          go_wp2_with (first
            | (go_at_call 10; refine (step_get (hq.below (balloc (Below.refl _ _) _)) (by have := hs.l; omega)).mono ?_; rintro e w2 ⟨y, is, st2, rfl, hq2, hcase⟩; have HK2 := Lib.hid (get_keeps HK.out hcase); have hs2 : st2.small (k + 1) := get_small hs hcase; clear hcase)
            | (go_at_call 15; obtain ⟨B2, hB2⟩ := hq2.qin; refine (waiting_any _ 0 B2 st2 _ hB2 (by have := hs2.l; omega)).mono ?_; rintro e w3 ⟨v3, rfl, hr3, hb3⟩; have hq3 := hq2.below hb3; have R3 := Lib.hid (RowIn.own keyC_len hr3); obtain ⟨A3, c3, rfl⟩ := own_form hr3; clear hr3 hB2)
            | (go_at_call 16; obtain ⟨B3, hB3⟩ := hq3.qin; refine (busy_any _ 0 B3 st2 _ hB3 (by have := hs2.b; omega)).mono ?_; rintro e w4 ⟨v4, rfl, hr4, hb4⟩; have hq4 := hq3.below hb4; have R4 := Lib.hid (RowIn.own keyC_len hr4); have R3b := Lib.hid (R3.out.below hb4); obtain ⟨A4, c4, rfl⟩ := own_form hr4; clear hr4 hB3 R3)
            | (go_at_call 17; obtain ⟨B4, hB4⟩ := hq4.qin; refine (dirty_any _ 0 B4 st2 _ hB4 (by have := hs2.d; omega)).mono ?_; rintro e w5 ⟨v5, rfl, hr5, hb5⟩; have hq5 := hq4.below hb5; have R5 := Lib.hid (RowIn.own keyC_len hr5); have R3c := Lib.hid (R3b.out.below hb5); have R4b := Lib.hid (R4.out.below hb5); obtain ⟨A5, c5, rfl⟩ := own_form hr5; clear hr5 hB4 R3b R4)
            | (go_at_call 14; refine (right_true _ _ _ (kys (lineQ st2)) (risL (kys st2.busy)) (risL (kys st2.dirty)) false _ R3c.out R4b.out R5.out (by have := hs2.l; simp [kys, lineQ]; omega) (by have := hs2.b; have := len_risL (kys st2.busy); rw [kys_len] at this; omega) (by have := hs2.d; have := len_risL (kys st2.dirty); rw [kys_len] at this; omega) (keeps_right HK2.out).1 (keeps_right HK2.out).2 (by rw [risL_idem]) (fun p hp => kys_ok ((mem_risL _ _).1 hp))).mono ?_; rintro e w6 ⟨rfl, hb6⟩; have hq6 := hq5.below hb6))
          go_roundg (l.length - (k + 1))
          case measure => omega
          case rel => exact ⟨k + 1, st2, hlt, Nat.le_refl _, by go_num, hq6, hs2, HK2.out⟩
        · have q1 : (kd == 1) = false := by simpa using e1
          by_cases e2 : kd = 2
          · subst e2
            clear e1 q1
            go_wp2_with (first
              | (go_at_call 11; refine (step_done (hq.below (balloc (Below.refl _ _) _)) ⟨x, hxok⟩ (by have := hs.l; omega)).mono ?_; rintro e w2 ⟨rfl, hq2⟩; obtain ⟨st2, hst2⟩ : ∃ s, s = (doneQ st ⟨x, hxok⟩).1 := ⟨_, rfl⟩; rw [← hst2] at hq2; have HK2 := Lib.hid (hst2 ▸ keeps_done HK.out _ : Keeps st2); have hs2 : st2.small (k + 1) := hst2 ▸ small_done hs _; clear hst2)
              | (go_at_call 15; obtain ⟨B2, hB2⟩ := hq2.qin; refine (waiting_any _ 0 B2 st2 _ hB2 (by have := hs2.l; omega)).mono ?_; rintro e w3 ⟨v3, rfl, hr3, hb3⟩; have hq3 := hq2.below hb3; have R3 := Lib.hid (RowIn.own keyC_len hr3); obtain ⟨A3, c3, rfl⟩ := own_form hr3; clear hr3 hB2)
              | (go_at_call 16; obtain ⟨B3, hB3⟩ := hq3.qin; refine (busy_any _ 0 B3 st2 _ hB3 (by have := hs2.b; omega)).mono ?_; rintro e w4 ⟨v4, rfl, hr4, hb4⟩; have hq4 := hq3.below hb4; have R4 := Lib.hid (RowIn.own keyC_len hr4); have R3b := Lib.hid (R3.out.below hb4); obtain ⟨A4, c4, rfl⟩ := own_form hr4; clear hr4 hB3 R3)
              | (go_at_call 17; obtain ⟨B4, hB4⟩ := hq4.qin; refine (dirty_any _ 0 B4 st2 _ hB4 (by have := hs2.d; omega)).mono ?_; rintro e w5 ⟨v5, rfl, hr5, hb5⟩; have hq5 := hq4.below hb5; have R5 := Lib.hid (RowIn.own keyC_len hr5); have R3c := Lib.hid (R3b.out.below hb5); have R4b := Lib.hid (R4.out.below hb5); obtain ⟨A5, c5, rfl⟩ := own_form hr5; clear hr5 hB4 R3b R4)
              | (go_at_call 14; refine (right_true _ _ _ (kys (lineQ st2)) (risL (kys st2.busy)) (risL (kys st2.dirty)) false _ R3c.out R4b.out R5.out (by have := hs2.l; simp [kys, lineQ]; omega) (by have := hs2.b; have := len_risL (kys st2.busy); rw [kys_len] at this; omega) (by have := hs2.d; have := len_risL (kys st2.dirty); rw [kys_len] at this; omega) (keeps_right HK2.out).1 (keeps_right HK2.out).2 (by rw [risL_idem]) (fun p hp => kys_ok ((mem_risL _ _).1 hp))).mono ?_; rintro e w6 ⟨rfl, hb6⟩; have hq6 := hq5.below hb6))
            go_roundg (l.length - (k + 1))
            case measure => omega
            case rel => exact ⟨k + 1, st2, hlt, Nat.le_refl _, by go_num, hq6, hs2, HK2.out⟩
          · have q2 : (kd == 2) = false := by simpa using e2
            by_cases e3 : kd = 3
            · subst e3
              clear e1 q1 e2 q2
              go_wp2_with (first
                | (go_at_call 12; refine (step_shut (hq.below (balloc (Below.refl _ _) _))).mono ?_; rintro e w2 ⟨rfl, hq2⟩; obtain ⟨st2, hst2⟩ : ∃ s, s = ({ st with over := true } : QSt) := ⟨_, rfl⟩; rw [← hst2] at hq2; have HK2 := Lib.hid (hst2 ▸ keeps_shut HK.out : Keeps st2); have hs2 : st2.small (k + 1) := hst2 ▸ small_shut hs; clear hst2)
                | (go_at_call 15; obtain ⟨B2, hB2⟩ := hq2.qin; refine (waiting_any _ 0 B2 st2 _ hB2 (by have := hs2.l; omega)).mono ?_; rintro e w3 ⟨v3, rfl, hr3, hb3⟩; have hq3 := hq2.below hb3; have R3 := Lib.hid (RowIn.own keyC_len hr3); obtain ⟨A3, c3, rfl⟩ := own_form hr3; clear hr3 hB2)
                | (go_at_call 16; obtain ⟨B3, hB3⟩ := hq3.qin; refine (busy_any _ 0 B3 st2 _ hB3 (by have := hs2.b; omega)).mono ?_; rintro e w4 ⟨v4, rfl, hr4, hb4⟩; have hq4 := hq3.below hb4; have R4 := Lib.hid (RowIn.own keyC_len hr4); have R3b := Lib.hid (R3.out.below hb4); obtain ⟨A4, c4, rfl⟩ := own_form hr4; clear hr4 hB3 R3)
                | (go_at_call 17; obtain ⟨B4, hB4⟩ := hq4.qin; refine (dirty_any _ 0 B4 st2 _ hB4 (by have := hs2.d; omega)).mono ?_; rintro e w5 ⟨v5, rfl, hr5, hb5⟩; have hq5 := hq4.below hb5; have R5 := Lib.hid (RowIn.own keyC_len hr5); have R3c := Lib.hid (R3b.out.below hb5); have R4b := Lib.hid (R4.out.below hb5); obtain ⟨A5, c5, rfl⟩ := own_form hr5; clear hr5 hB4 R3b R4)
                | (go_at_call 14; refine (right_true _ _ _ (kys (lineQ st2)) (risL (kys st2.busy)) (risL (kys st2.dirty)) false _ R3c.out R4b.out R5.out (by have := hs2.l; simp [kys, lineQ]; omega) (by have := hs2.b; have := len_risL (kys st2.busy); rw [kys_len] at this; omega) (by have := hs2.d; have := len_risL (kys st2.dirty); rw [kys_len] at this; omega) (keeps_right HK2.out).1 (keeps_right HK2.out).2 (by rw [risL_idem]) (fun p hp => kys_ok ((mem_risL _ _).1 hp))).mono ?_; rintro e w6 ⟨rfl, hb6⟩; have hq6 := hq5.below hb6))
              go_roundg (l.length - (k + 1))
              case measure => omega
              case rel => exact ⟨k + 1, st2, hlt, Nat.le_refl _, by go_num, hq6, hs2, HK2.out⟩
            · have q3 : (kd == 3) = false := by simpa using e3
              clear e1 e2 e3
              go_wp2_with (first
                | (go_at_call 13; refine (step_add (hq.below (balloc (Below.refl _ _) _)) ⟨x, hxok⟩ (by have := hs.l; omega)).mono ?_; rintro e w2 ⟨rfl, hq2⟩; obtain ⟨st2, hst2⟩ : ∃ s, s = (addQ st ⟨x, hxok⟩).1 := ⟨_, rfl⟩; rw [← hst2] at hq2; have HK2 := Lib.hid (hst2 ▸ keeps_add HK.out _ : Keeps st2); have hs2 : st2.small (k + 1) := hst2 ▸ small_add hs _; clear hst2)
                | (go_at_call 15; obtain ⟨B2, hB2⟩ := hq2.qin; refine (waiting_any _ 0 B2 st2 _ hB2 (by have := hs2.l; omega)).mono ?_; rintro e w3 ⟨v3, rfl, hr3, hb3⟩; have hq3 := hq2.below hb3; have R3 := Lib.hid (RowIn.own keyC_len hr3); obtain ⟨A3, c3, rfl⟩ := own_form hr3; clear hr3 hB2)
                | (go_at_call 16; obtain ⟨B3, hB3⟩ := hq3.qin; refine (busy_any _ 0 B3 st2 _ hB3 (by have := hs2.b; omega)).mono ?_; rintro e w4 ⟨v4, rfl, hr4, hb4⟩; have hq4 := hq3.below hb4; have R4 := Lib.hid (RowIn.own keyC_len hr4); have R3b := Lib.hid (R3.out.below hb4); obtain ⟨A4, c4, rfl⟩ := own_form hr4; clear hr4 hB3 R3)
                | (go_at_call 17; obtain ⟨B4, hB4⟩ := hq4.qin; refine (dirty_any _ 0 B4 st2 _ hB4 (by have := hs2.d; omega)).mono ?_; rintro e w5 ⟨v5, rfl, hr5, hb5⟩; have hq5 := hq4.below hb5; have R5 := Lib.hid (RowIn.own keyC_len hr5); have R3c := Lib.hid (R3b.out.below hb5); have R4b := Lib.hid (R4.out.below hb5); obtain ⟨A5, c5, rfl⟩ := own_form hr5; clear hr5 hB4 R3b R4)
                | (go_at_call 14; refine (right_true _ _ _ (kys (lineQ st2)) (risL (kys st2.busy)) (risL (kys st2.dirty)) false _ R3c.out R4b.out R5.out (by have := hs2.l; simp [kys, lineQ]; omega) (by have := hs2.b; have := len_risL (kys st2.busy); rw [kys_len] at this; omega) (by have := hs2.d; have := len_risL (kys st2.dirty); rw [kys_len] at this; omega) (keeps_right HK2.out).1 (keeps_right HK2.out).2 (by rw [risL_idem]) (fun p hp => kys_ok ((mem_risL _ _).1 hp))).mono ?_; rintro e w6 ⟨rfl, hb6⟩; have hq6 := hq5.below hb6))
              go_roundg (l.length - (k + 1))
              case measure => omega
              case rel => exact ⟨k + 1, st2, hlt, Nat.le_refl _, by go_num, hq6, hs2, HK2.out⟩
      · obtain rfl : k = l.length := by omega
        go_wp2
        go_ret
        exact ⟨rfl, hbw⟩
  · have q80 : (80 : Int) < (l.length : Int) := by omega
    clear hv hok hl
    go_enter Try.func3, Try.ntmps3
    go_wp2_with (first
      | (go_at_call 9; refine (qawake_any _).mono ?_; rintro e w1 ⟨rfl, hb1⟩))
    go_ret
    exact ⟨rfl, hb1⟩
end Go.Proofs.Ytfnabpmdjfejbaa
