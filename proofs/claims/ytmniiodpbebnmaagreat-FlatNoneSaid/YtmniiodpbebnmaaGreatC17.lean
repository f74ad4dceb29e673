/- Walks of sat's sums and window's lists; Walks of window's Cut and Values, of slices.Min and Max; Walks of wide's Total and Mean, of window's Of, At and Merge; Walks of wide.Mean, window.Of and At. -/
import Derived.Test.YtmniiodpbebnmaaGreatC06
import Derived.Test.YtmniiodpbebnmaaGreatC16
namespace Go.Proofs.YtmniiodpbebnmaaGreat

section
set_option linter.unusedSimpArgs false
set_option linter.unusedVariables false
open Go.RowKit Go.Lib

theorem eNm : EltOf 196 2 1 8 (.int .i64 0) nmC :=
  ⟨by kernel_rfl, by kernel_rfl, rfl, by decide, by decide, fun _ => rfl, fun x u hu => by
    simp only [nmC, List.mem_cons, List.not_mem_nil, or_false] at hu
    rcases hu with rfl
    rfl⟩

set_option maxRecDepth 100000 in
set_option maxHeartbeats 1000000 in
theorem satSub_any (a b : Int) (w : World) (ha : I64 a) (hb : I64 b) :
    Calls Tryz.prog 241 #[.int .i64 a, .int .i64 b] w fun e w' => e = .returned (.int .i64 (endsI (a - b))) ∧ w = w' := by
  by_cases h : b = -9223372036854775808
  · subst h
    obtain ⟨s, hs⟩ : ∃ s, s = endsI (a + 9223372036854775807) := ⟨_, rfl⟩
    obtain ⟨t, ht⟩ : ∃ t : Int, t = if decide (a < 0) = true then 1 else 0 := ⟨_, rfl⟩
    have HE := Lib.hid (show endsI (s + t) = endsI (a - -9223372036854775808) by rw [hs, ht]; exact sub_end ha _ rfl)
    have HT := Lib.hid ht
    have HS := Lib.hid (show I64 s by rw [hs]; exact endsI_i64 _)
    have HS2 := Lib.hid hs
    have HA := Lib.hid ha
    have HTI := Lib.hid (show I64 t by rw [ht]; unfold I64; split <;> omega)
    clear hs ht ha hb
    go_enter Tryz.func241, Tryz.ntmps241
    go_wp2_with (first
      | (go_at_call 286
         refine (satBit_any _ _).mono ?_
         rw [← HT.out]
         rintro e w1 ⟨rfl, rfl⟩
         have HB := Lib.hid True.intro)
      | (go_at_call 240
         have h9 := HB
         refine (satAdd_any s t _ HS.out HTI.out).mono ?_
         rw [HE.out]
         rintro e w1 ⟨rfl, rfl⟩
         clear h9)
      | (go_at_call 240
         refine (satAdd_any a 9223372036854775807 _ HA.out (by unfold I64; omega)).mono ?_
         rw [← HS2.out]
         rintro e w1 ⟨rfl, rfl⟩))
    go_ret
    exact ⟨rfl, rfl⟩
  · have HE := Lib.hid (show endsI (a + IntKind.i64.wrap (-b)) = endsI (a - b) from sub_ends ha hb h)
    have hn : I64 (-b) := by unfold I64 at *; omega
    have q1 : wrap64 (-b) = -b := by unfold I64 at hn; unfold wrap64; omega
    have q2 : IntKind.i64.wrap (-b) = -b := by unfold I64 at hn; rw [IntKind.wrap_i64]; omega
    rw [q2] at HE
    have HA := Lib.hid ha
    have HN := Lib.hid hn
    have q3 : (b == -9223372036854775808) = false := by simpa using h
    clear ha hb hn
    go_enter Tryz.func241, Tryz.ntmps241
    go_wp2_with (first
      | (go_at_call 240
         refine (satAdd_any a (-b) _ HA.out HN.out).mono ?_
         rw [HE.out]
         rintro e w1 ⟨rfl, rfl⟩))
    go_ret
    exact ⟨rfl, rfl⟩

set_option maxRecDepth 100000 in
set_option maxHeartbeats 1000000 in
theorem winFrom_any (a b : Int) (w : World) (ha : I64 a) (hb : I64 b) :
    Calls Tryz.prog 198 #[.int .i64 a, .int .i64 b] w fun e w' => e = .returned (.int .i64 (fromW a b)) ∧ w = w' := by
  have C1 := Lib.hid (satSub_any a b w ha hb)
  have C2 := Lib.hid (satAdd_any (endsI (a - b)) 1 w (endsI_i64 _) (by unfold I64; omega))
  unfold fromW
  generalize endsI (a - b) = s at C1 C2 ⊢
  generalize endsI (s + 1) = t at C2 ⊢
  clear ha hb
  go_enter Tryz.func198, Tryz.ntmps198
  go_wp2_with (first
    | (go_at_call 241
       refine C1.out.mono ?_
       rintro e w1 ⟨rfl, rfl⟩)
    | (go_at_call 240
       refine C2.out.mono ?_
       rintro e w1 ⟨rfl, rfl⟩))
  go_ret
  exact ⟨rfl, rfl⟩

set_option maxRecDepth 100000 in
set_option maxHeartbeats 1000000 in
theorem satSum_any (v : Value) (l : List Int) (w : World) (hv : RowIn 1 nmC w v l) (hl : l.length ≤ 1000000) (hi : ∀ n ∈ l, I64 n) :
    Calls Tryz.prog 236 #[v] w fun e w' => e = .returned (.int .i64 (sumE l 0)) ∧ w = w' := by
  obtain ⟨A, c, rfl⟩ := hv.form
  have HV := Lib.hid hv
  have HI := Lib.hid hi
  have hl9 : l.length ≤ 9223372036854775807 := by omega
  clear hv hi
  go_enter Tryz.func236, Tryz.ntmps236
  go_wp2
  go_loopg [3, 8] l.length (fun g s3 s8 wr => ∃ k : Nat, k ≤ l.length ∧ l.length - k ≤ g ∧ s8 = .int .i64 k ∧ s3 = .int .i64 (sumE (l.take k) 0) ∧ w = wr)
  case atStart => exact ⟨0, Nat.zero_le _, Nat.le_refl _, rfl, by simp [sumE], rfl⟩
  case round =>
    obtain ⟨k, hk, hg, rfl, rfl, rfl⟩ := hrel
    by_cases hlt : k < l.length
    · obtain ⟨b1, o1, rfl, hb1, hc⟩ := HV.out.at_ hlt
      have z1 : (0 : Int) ≤ (k : Int) := by omega
      have z2 : (k : Int) < (l.length : Int) := by omega
      have HS := Lib.hid (show sumE (l.take (k + 1)) 0 = endsI (sumE (l.take k) 0 + l[k]) by rw [List.take_succ_eq_append_getElem hlt, sumE_snoc])
      have d0 := hc 0 _ rfl
      rw [Nat.add_zero, Nat.mul_one] at d0
      have HN := Lib.hid (satAdd_any (sumE (l.take k) 0) l[k] w (sumE_i64 _ _ i64_0) (HI.out _ (List.getElem_mem hlt)))
      rw [← HS.out] at HN
      generalize sumE (l.take k) 0 = s at HN ⊢
      generalize l[k] = x at HN d0
      clear hc HS
      go_wp2_with (first
        | (go_at_call 240
           refine HN.out.mono ?_
           rintro e w1 ⟨rfl, rfl⟩))
      go_roundg (l.length - (k + 1))
      case measure => omega
      case rel => exact ⟨k + 1, hlt, Nat.le_refl _, by go_num, rfl, rfl⟩
    · obtain rfl : k = l.length := by omega
      rw [List.take_length]
      go_wp2
      go_ret
      exact ⟨rfl, rfl⟩
end

section
set_option linter.unusedSimpArgs false
set_option linter.unusedVariables false
open Go.RowKit Go.Lib

set_option maxRecDepth 100000 in
set_option maxHeartbeats 2000000 in
theorem winCut_any (v : Value) (l : List Smp) (a b : Int) (w : World) (hv : RowIn 2 smpC w v l) (hl : l.length ≤ 1000000) :
    Calls Tryz.prog 197 #[v, .int .i64 a, .int .i64 b] w fun e w' => ∃ A c, e = .returned (.slice A (winC l a b).length c) ∧ OwnL smpC 111 2 w.heap.size w' (.slice A (winC l a b).length c) (winC l a b) ∧ Below w.heap.size w w' := by
  obtain ⟨A, c, rfl⟩ := hv.form
  have HV := Lib.hid hv
  have HL := Lib.hid hl
  have hl9 : l.length ≤ 9223372036854775807 := by omega
  clear hv hl
  go_enter Tryz.func197, Tryz.ntmps197
  go_wp2
  go_loopg [7, 12] l.length (fun g s7 s12 wr => ∃ k : Nat, k ≤ l.length ∧ l.length - k ≤ g ∧ s12 = .int .i64 k ∧ OwnL smpC 111 2 w.heap.size wr s7 (winC (l.take k) a b) ∧ Below w.heap.size w wr)
  case atStart => exact ⟨0, Nat.zero_le _, Nat.le_refl _, rfl, by simp [winC]; exact OwnL.nil _ _, Below.refl _ _⟩
  case round =>
    obtain ⟨k, hk, hg, rfl, hown, hb⟩ := hrel
    rename World => wr
    obtain ⟨pre, hpre⟩ : ∃ pre, pre = winC (l.take k) a b := ⟨_, rfl⟩
    rw [← hpre] at hown
    obtain ⟨A5, c5, rfl⟩ := hown.form
    have HPL := Lib.hid (show pre.length ≤ k by rw [hpre]; exact Nat.le_trans (cut_len _ _ _) (by simp; omega))
    have HPRE := Lib.hid hpre
    have HO := Lib.hid hown
    have HB := Lib.hid hb
    clear hpre hown hb
    by_cases hlt : k < l.length
    · obtain ⟨b1, o1, rfl, hb1, hc⟩ := (HV.out.below HB.out).at_ hlt
      have z1 : (0 : Int) ≤ (k : Int) := by omega
      have z2 : (k : Int) < (l.length : Int) := by omega
      have HTK := Lib.hid (show winC (l.take (k + 1)) a b = pre ++ if a ≤ l[k].1 ∧ l[k].1 ≤ b then [l[k]] else [] by rw [List.take_succ_eq_append_getElem hlt, winC_snoc, HPRE.out])
      generalize l[k] = x at hc HTK
      have d0 := hc 0 _ rfl
      have d1 := hc 1 _ rfl
      rw [Nat.add_zero] at d0
      have HK := Lib.hid hlt
      clear hc
      by_cases h1 : a ≤ x.1
      · by_cases h2 : x.1 ≤ b
        · as_aux_lemma =>
          go_wp2_with (first
            | (at_builtin
               refine wpList_appendL eSmp (by rfl) (by rfl) w.heap.size pre [x] (.slice A5 pre.length c5) _ (by rfl) (by rfl) ((HO.out.below (balloc (balloc (Below.refl _ _) _) _))) (RowIn.lit _ x _ _ (wr.heap.size + 1) (by simp) rfl) (by have := HPL.out; have := HL.out; have := HK.out; simp; omega) (by have := HB.out.size; simp; omega) ?_
               intro out2 A9 c9 w13 hout2 hown2 hg2 _
               have HO13 := Lib.hid hout2
               have HW13 := Lib.hid hown2
               have HB13 := Lib.hid (show Below w.heap.size w w13 from (balloc (balloc HB.out _) _).trans (grown_own hg2 HO.out (by have := HB.out.size; simp; omega)))
               clear hout2 hown2 hg2))
          go_roundg (l.length - (k + 1))
          case measure => omega
          case rel => exact ⟨k + 1, HK.out, Nat.le_refl _, by go_num, by rw [HTK.out, if_pos ⟨h1, h2⟩, ← HO13.out]; exact HW13.out, HB13.out⟩
        · as_aux_lemma =>
          go_wp2_with fail
          go_roundg (l.length - (k + 1))
          case measure => omega
          case rel => exact ⟨k + 1, HK.out, Nat.le_refl _, by go_num, by rw [HTK.out, if_neg (by omega), List.append_nil]; exact HO.out.below (balloc (Below.refl _ _) _), balloc HB.out _⟩
      · as_aux_lemma =>
        go_wp2_with fail
        go_roundg (l.length - (k + 1))
        case measure => omega
        case rel => exact ⟨k + 1, HK.out, Nat.le_refl _, by go_num, by rw [HTK.out, if_neg (by omega), List.append_nil]; exact HO.out.below (balloc (Below.refl _ _) _), balloc HB.out _⟩
    · obtain rfl : k = l.length := by omega
      have hp := HPRE.out
      rw [List.take_length] at hp
      have HP := Lib.hid hp
      clear hp
      go_wp2_with fail
      go_ret
      exact ⟨A5, c5, by rw [HP.out]; rfl, by rw [← HP.out]; exact HO.out, HB.out⟩

set_option maxRecDepth 100000 in
set_option maxHeartbeats 2000000 in
theorem winVals_any (v : Value) (l : List Smp) (w : World) (hv : RowIn 2 smpC w v l) (hl : l.length ≤ 1000000) :
    Calls Tryz.prog 235 #[v] w fun e w' => ∃ A c, e = .returned (.slice A (valsW l).length c) ∧ OwnL nmC 2 1 w.heap.size w' (.slice A (valsW l).length c) (valsW l) ∧ Below w.heap.size w w' := by
  obtain ⟨A, c, rfl⟩ := hv.form
  have HV := Lib.hid hv
  have HL := Lib.hid hl
  have hl9 : l.length ≤ 9223372036854775807 := by omega
  clear hv hl
  go_enter Tryz.func235, Tryz.ntmps235
  go_wp2
  go_loopg [3, 8] l.length (fun g s7 s12 wr => ∃ k : Nat, k ≤ l.length ∧ l.length - k ≤ g ∧ s12 = .int .i64 k ∧ OwnL nmC 2 1 w.heap.size wr s7 (valsW (l.take k)) ∧ Below w.heap.size w wr)
  case atStart => exact ⟨0, Nat.zero_le _, Nat.le_refl _, rfl, by simp [valsW]; exact OwnL.nil _ _, Below.refl _ _⟩
  case round =>
    obtain ⟨k, hk, hg, rfl, hown, hb⟩ := hrel
    rename World => wr
    obtain ⟨pre, hpre⟩ : ∃ pre, pre = valsW (l.take k) := ⟨_, rfl⟩
    rw [← hpre] at hown
    obtain ⟨A5, c5, rfl⟩ := hown.form
    have HPL := Lib.hid (show pre.length ≤ k by rw [hpre, vals_len]; simp; omega)
    have HPRE := Lib.hid hpre
    have HO := Lib.hid hown
    have HB := Lib.hid hb
    clear hpre hown hb
    by_cases hlt : k < l.length
    · obtain ⟨b1, o1, rfl, hb1, hc⟩ := (HV.out.below HB.out).at_ hlt
      have z1 : (0 : Int) ≤ (k : Int) := by omega
      have z2 : (k : Int) < (l.length : Int) := by omega
      have HTK := Lib.hid (show valsW (l.take (k + 1)) = pre ++ [max l[k].2 0] by rw [List.take_succ_eq_append_getElem hlt, valsW_snoc, HPRE.out])
      generalize l[k] = x at hc HTK
      have d0 := hc 0 _ rfl
      have d1 := hc 1 _ rfl
      rw [Nat.add_zero] at d0
      have HK := Lib.hid hlt
      clear hc
      go_wp2_with (first
        | (at_builtin
           refine wpList_appendL eNm (by rfl) (by rfl) w.heap.size pre [max x.2 0] (.slice A5 pre.length c5) _ (by rfl) (by rfl) ((HO.out.below (balloc (balloc (Below.refl _ _) _) _))) (RowIn.lit _ (max x.2 0) _ _ (wr.heap.size + 1) (by simp) (by simp [nmC])) (by have := HPL.out; have := HL.out; have := HK.out; simp; omega) (by have := HB.out.size; simp; omega) ?_
           intro out2 A9 c9 w13 hout2 hown2 hg2 _
           have HO13 := Lib.hid hout2
           have HW13 := Lib.hid hown2
           have HB13 := Lib.hid (show Below w.heap.size w w13 from (balloc (balloc HB.out _) _).trans (grown_own hg2 HO.out (by have := HB.out.size; simp; omega)))
           clear hout2 hown2 hg2))
      go_roundg (l.length - (k + 1))
      case measure => omega
      case rel => exact ⟨k + 1, HK.out, Nat.le_refl _, by go_num, by rw [HTK.out, ← HO13.out]; exact HW13.out, HB13.out⟩
    · obtain rfl : k = l.length := by omega
      have hp := HPRE.out
      rw [List.take_length] at hp
      have HP := Lib.hid hp
      clear hp
      go_wp2_with fail
      go_ret
      exact ⟨A5, c5, by rw [HP.out]; rfl, by rw [← HP.out]; exact HO.out, HB.out⟩

set_option maxRecDepth 100000 in
set_option maxHeartbeats 2000000 in
theorem slMin_any (v : Value) (l : List Int) (w : World) (hv : RowIn 1 nmC w v l) (hl : l.length ≤ 1000000) (hne : l ≠ []) :
    Calls Tryz.prog 237 #[v] w fun e w' => e = .returned (.int .i64 (minL l)) ∧ w = w' := by
  obtain ⟨A, c, rfl⟩ := hv.form
  have HV := Lib.hid hv
  have hl9 : l.length ≤ 9223372036854775807 := by omega
  have hp : 0 < l.length := List.length_pos_iff.2 hne
  have z0 : ¬ (l.length : Int) < 1 := by omega
  have z3 : (0 : Int) < (l.length : Int) := by omega
  obtain ⟨b1, o1, rfl, hb1, hc⟩ := HV.out.at_ hp
  have d0 := hc 0 _ rfl
  simp only [Nat.zero_mul, Nat.add_zero] at d0
  have HP := Lib.hid hp
  have HFST := Lib.hid (show minL (l.take 1) = l[0] by
    rw [List.take_one]
    cases l with
    | nil => exact absurd rfl hne
    | cons a l => rfl)
  generalize l[0] = x0 at d0 HFST
  clear hv hc hne hp
  go_enter Tryz.func237, Tryz.ntmps237
  go_wp2
  go_loopg [3, 4] l.length (fun g s3 s8 wr => ∃ k : Nat, 1 ≤ k ∧ k ≤ l.length ∧ l.length - k ≤ g ∧ s8 = .int .i64 k ∧ s3 = .int .i64 (minL (l.take k)) ∧ w = wr)
  case atStart => exact ⟨1, Nat.le_refl _, HP.out, by omega, rfl, by rw [HFST.out], rfl⟩
  case round =>
    obtain ⟨k, hk1, hk, hg, rfl, rfl, rfl⟩ := hrel
    by_cases hlt : k < l.length
    · obtain ⟨b2, o2, he, hb2, hc⟩ := HV.out.at_ hlt
      injection he with he
      injection he with e1 e2
      subst e1 e2
      have z1 : (0 : Int) ≤ (k : Int) := by omega
      have z2 : (k : Int) < (l.length : Int) := by omega
      have HS := Lib.hid (show minL (l.take (k + 1)) = min (minL (l.take k)) l[k] by rw [List.take_succ_eq_append_getElem hlt, minL_snoc (by intro q; have := congrArg List.length q; rw [List.length_take, List.length_nil] at this; omega)])
      have d2 := hc 0 _ rfl
      rw [Nat.add_zero, Nat.mul_one] at d2
      generalize minL (l.take k) = s at HS ⊢
      generalize l[k] = x at HS d2
      clear hc d0
      go_wp2
      go_roundg (l.length - (k + 1))
      case measure => omega
      case rel => exact ⟨k + 1, by omega, hlt, Nat.le_refl _, by go_num, by rw [HS.out], rfl⟩
    · obtain rfl : k = l.length := by omega
      rw [List.take_length]
      go_wp2
      go_ret
      exact ⟨rfl, rfl⟩
set_option maxRecDepth 100000 in
set_option maxHeartbeats 2000000 in
theorem slMax_any (v : Value) (l : List Int) (w : World) (hv : RowIn 1 nmC w v l) (hl : l.length ≤ 1000000) (hne : l ≠ []) :
    Calls Tryz.prog 238 #[v] w fun e w' => e = .returned (.int .i64 (maxL l)) ∧ w = w' := by
  obtain ⟨A, c, rfl⟩ := hv.form
  have HV := Lib.hid hv
  have hl9 : l.length ≤ 9223372036854775807 := by omega
  have hp : 0 < l.length := List.length_pos_iff.2 hne
  have z0 : ¬ (l.length : Int) < 1 := by omega
  have z3 : (0 : Int) < (l.length : Int) := by omega
  obtain ⟨b1, o1, rfl, hb1, hc⟩ := HV.out.at_ hp
  have d0 := hc 0 _ rfl
  simp only [Nat.zero_mul, Nat.add_zero] at d0
  have HP := Lib.hid hp
  have HFST := Lib.hid (show maxL (l.take 1) = l[0] by
    rw [List.take_one]
    cases l with
    | nil => exact absurd rfl hne
    | cons a l => rfl)
  generalize l[0] = x0 at d0 HFST
  clear hv hc hne hp
  go_enter Tryz.func238, Tryz.ntmps238
  go_wp2
  go_loopg [3, 4] l.length (fun g s3 s8 wr => ∃ k : Nat, 1 ≤ k ∧ k ≤ l.length ∧ l.length - k ≤ g ∧ s8 = .int .i64 k ∧ s3 = .int .i64 (maxL (l.take k)) ∧ w = wr)
  case atStart => exact ⟨1, Nat.le_refl _, HP.out, by omega, rfl, by rw [HFST.out], rfl⟩
  case round =>
    obtain ⟨k, hk1, hk, hg, rfl, rfl, rfl⟩ := hrel
    by_cases hlt : k < l.length
    · obtain ⟨b2, o2, he, hb2, hc⟩ := HV.out.at_ hlt
      injection he with he
      injection he with e1 e2
      subst e1 e2
      have z1 : (0 : Int) ≤ (k : Int) := by omega
      have z2 : (k : Int) < (l.length : Int) := by omega
      have HS := Lib.hid (show maxL (l.take (k + 1)) = max (maxL (l.take k)) l[k] by rw [List.take_succ_eq_append_getElem hlt, maxL_snoc (by intro q; have := congrArg List.length q; rw [List.length_take, List.length_nil] at this; omega)])
      have d2 := hc 0 _ rfl
      rw [Nat.add_zero, Nat.mul_one] at d2
      generalize maxL (l.take k) = s at HS ⊢
      generalize l[k] = x at HS d2
      clear hc d0
      go_wp2
      go_roundg (l.length - (k + 1))
      case measure => omega
      case rel => exact ⟨k + 1, by omega, hlt, Nat.le_refl _, by go_num, by rw [HS.out], rfl⟩
    · obtain rfl : k = l.length := by omega
      rw [List.take_length]
      go_wp2
      go_ret
      exact ⟨rfl, rfl⟩
end

section
set_option linter.unusedSimpArgs false
set_option linter.unusedVariables false
open Go.RowKit Go.Lib

theorem box_below {w wr w' : World} {B : Nat} {cs : Array Value} {T : TypeId} (h : wr.heap[B]? = some (.cells cs T (0, 0))) (hb : Below wr.heap.size wr w') : w'.heap[B]? = some (.cells cs T (0, 0)) :=
  (hb.block _ (Array.getElem?_eq_some_iff.1 h).1).trans h

set_option maxRecDepth 100000 in
set_option maxHeartbeats 2000000 in
theorem wideTotal_any (v : Value) (l : List Int) (w : World) (hv : RowIn 1 nmC w v l) (hl : l.length ≤ 1000000) (hi : ∀ n ∈ l, 0 ≤ n ∧ n ≤ 9223372036854775807) :
    Calls Tryz.prog 284 #[v] w fun e w' => e = .returned (twoV (totN l)) ∧ Below w.heap.size w w' := by
  obtain ⟨A, c, rfl⟩ := hv.form
  have HV := Lib.hid hv
  have HI := Lib.hid hi
  have HL := Lib.hid hl
  have hl9 : l.length ≤ 9223372036854775807 := by omega
  clear hv hi hl
  go_enter Tryz.func284, Tryz.ntmps284
  go_wp2
  go_loopg [8] l.length (fun g s8 wr => ∃ (k a b : Nat), k ≤ l.length ∧ l.length - k ≤ g ∧ s8 = .int .i64 k ∧ Hid (a = totN (l.take k) / 18446744073709551616 ∧ b = totN (l.take k) % 18446744073709551616) ∧ Below w.heap.size w wr ∧ wr.heap[w.heap.size]? = some (.cells #[.int .u64 0, .int .u64 0] 272 (0, 0)) ∧ wr.heap[w.heap.size + 1]? = some (.cells #[.int .u64 a, .int .u64 b] 272 (0, 0)))
  case atStart => exact ⟨0, 0, 0, Nat.zero_le _, Nat.le_refl _, rfl, Lib.hid (by simp [totN]), balloc (balloc (Below.refl _ _) _) _, box_old _ _ _, box_new _ _ _⟩
  case round =>
    obtain ⟨k, a, b, hk, hg, rfl, HAB, hb, hz, hq⟩ := hrel
    rename World => wr
    have HB := Lib.hid hb
    have HZ := Lib.hid hz
    have HQ := Lib.hid hq
    obtain ⟨a1, a2, a3⟩ := box_cells (Below.refl _ _) hz
    obtain ⟨c1, c2, c3⟩ := box_cells (Below.refl _ _) hq
    clear hb hz hq
    by_cases hlt : k < l.length
    · obtain ⟨b1, o1, rfl, hb1, hc⟩ := (HV.out.below HB.out).at_ hlt
      have z1 : (0 : Int) ≤ (k : Int) := by omega
      have z2 : (k : Int) < (l.length : Int) := by omega
      have HTK := Lib.hid (show totN (l.take (k + 1)) = totN (l.take k) + l[k].toNat by rw [List.take_succ_eq_append_getElem hlt, totN_snoc])
      have hx := HI.out _ (List.getElem_mem hlt)
      have HTL := Lib.hid (show totN (l.take k) ≤ 1000000 * 9223372036854775807 from Nat.le_trans (totN_le (fun n hn => (HI.out n (List.mem_of_mem_take hn)).2)) (Nat.mul_le_mul_right _ (by rw [List.length_take]; have := HL.out; omega)))
      generalize l[k] = x at hc HTK hx
      have d0 := hc 0 _ rfl
      rw [Nat.add_zero, Nat.mul_one] at d0
      have HK := Lib.hid hlt
      clear hc
      by_cases h0 : 0 < x
      · obtain ⟨y, rfl⟩ : ∃ y : Nat, x = y := ⟨x.toNat, by omega⟩
        have hy : y ≤ 9223372036854775807 := by omega
        have q1 : IntKind.u64.wrap (y : Int) = (y : Int) := u64_wrap y (by omega)
        obtain ⟨a', ha'⟩ : ∃ a', a' = totN (l.take (k + 1)) / 18446744073709551616 := ⟨_, rfl⟩
        obtain ⟨b', hb'⟩ : ∃ b', b' = totN (l.take (k + 1)) % 18446744073709551616 := ⟨_, rfl⟩
        have HAB2 := Lib.hid (And.intro ha' hb')
        have CA := Lib.hid (fun W => show Calls Tryz.prog 242 #[.agg #[.int .u64 a, .int .u64 b], .agg #[.int .u64 0, .int .u64 y]] W fun e w' => e = .returned (.tuple #[.agg #[.int .u64 a', .int .u64 b'], .bool true]) ∧ Below W.heap.size W w' from by
          have h := wideAdd_any (totN (l.take k)) y (by have := HTL.out; omega) W
          have e1 : y / 18446744073709551616 = 0 := Nat.div_eq_of_lt (by omega)
          have e2 : y % 18446744073709551616 = y := Nat.mod_eq_of_lt (by omega)
          have e3 : totN (l.take k) + y = totN (l.take (k + 1)) := by rw [HTK.out]; simp
          unfold twoV at h
          rw [e3, e1, e2, ← HAB.out.1, ← HAB.out.2, ← ha', ← hb'] at h
          exact h)
        have h0' : (0 : Int) < (y : Int) := h0
        clear ha' hb' hx hy h0
        as_aux_lemma =>
        go_wp2_with (first
          | (go_at_call 242
             refine (CA.out wr).mono ?_
             rintro e w3 ⟨rfl, hb3⟩
             have HZ3 := Lib.hid (box_below (w := w) HZ.out hb3)
             have HQ3 := Lib.hid (box_below (w := w) HQ.out hb3)
             obtain ⟨e1, e2, e3⟩ := box_cells (Below.refl _ _) HQ3.out
             have HB3 := Lib.hid (bthen HB.out hb3)
             clear hb3))
        go_roundg (l.length - (k + 1))
        case measure => omega
        case rel => exact ⟨k + 1, a', b', HK.out, Nat.le_refl _, by go_num, HAB2, (HB3.out.setCell (by simp) _).setCell (by simp) _, heap_set_ne (heap_set_ne HZ3.out (by omega)) (by omega), setCell_block (setCell_block HQ3.out)⟩
      · obtain rfl : x = 0 := by omega
        have e3 : totN (l.take (k + 1)) = totN (l.take k) := by rw [HTK.out]; simp
        have HAB2 := Lib.hid (show a = totN (l.take (k + 1)) / 18446744073709551616 ∧ b = totN (l.take (k + 1)) % 18446744073709551616 by rw [e3]; exact HAB.out)
        clear e3 hx h0
        as_aux_lemma =>
        go_wp2_with fail
        go_roundg (l.length - (k + 1))
        case measure => omega
        case rel => exact ⟨k + 1, a, b, HK.out, Nat.le_refl _, by go_num, HAB2, HB.out, HZ.out, HQ.out⟩
    · obtain rfl : k = l.length := by omega
      rw [List.take_length] at HAB
      go_wp2_with fail
      have hz2 := setCell_block (i := 1) (v := .int .u64 b) (setCell_block (i := 0) (v := .int .u64 a) HZ.out)
      obtain ⟨f1, f2, f3⟩ := box_cells (Below.refl _ _) hz2
      refine bodyPost_ret (v := .agg #[.int .u64 a, .int .u64 b]) (by simp [results, Tryz.results284, go_sem, f1]) rfl ⟨?_, (HB.out.setCell (Nat.le_refl _) _).setCell (Nat.le_refl _) _⟩
      unfold twoV
      rw [HAB.out.1, HAB.out.2]
end

section
set_option linter.unusedSimpArgs false
set_option linter.unusedVariables false
open Go.RowKit Go.Lib

theorem mean_law (t d : Nat) (hd : 0 < d) : (t + (d - 1)) / d = if 0 < t % d then t / d + 1 else t / d := by
  have h := Nat.div_add_mod t d
  have hm := Nat.mod_lt t hd
  generalize t / d = q at *
  generalize t % d = r at *
  subst h
  split
  · rw [Nat.add_assoc, Nat.mul_add_div hd]
    have : (r + (d - 1)) / d = 1 := by
      rw [Nat.div_eq_iff hd]
      omega
    omega
  · rw [Nat.add_assoc, Nat.mul_add_div hd, Nat.div_eq_of_lt (by omega)]
    rfl

set_option maxRecDepth 100000 in
set_option maxHeartbeats 2000000 in
theorem wideMean_any (v : Value) (l : List Int) (w : World) (hv : RowIn 1 nmC w v l) (hl : l.length ≤ 1000000) (hi : ∀ n ∈ l, 0 ≤ n ∧ n ≤ 9223372036854775807) :
    Calls Tryz.prog 239 #[v] w fun e w' => e = .returned (.int .i64 (meanN l : Nat)) ∧ Below w.heap.size w w' := by
  obtain ⟨A, c, rfl⟩ := hv.form
  have hl9 : l.length ≤ 9223372036854775807 := by omega
  by_cases hne : l = []
  · have q1 : (l.length : Int) = 0 := by rw [hne]; rfl
    have HM := Lib.hid (show meanN l = 0 by rw [hne]; rfl)
    have q2 : ((l.length : Int) == 0) = true := by simp [hne]
    clear hv hi hne
    go_enter Tryz.func239, Tryz.ntmps239
    go_wp2_with fail
    go_ret
    exact ⟨by rw [HM.out]; rfl, Below.refl _ _⟩
  · have hp : 0 < l.length := List.length_pos_iff.2 hne
    have CT := Lib.hid (wideTotal_any _ l w hv hl hi)
    have htl := totN_le (fun n hn => (hi n hn).2)
    have hml := meanN_le (fun n hn => (hi n hn).2)
    have hmn : meanN l = if 0 < totN l % l.length then totN l / l.length + 1 else totN l / l.length := by
      unfold meanN
      rw [if_neg hne, mean_law _ _ hp]
    have q0 : ¬ (l.length : Int) = 0 := by omega
    have q1 : ((l.length : Int) == 0) = false := by simpa using hne
    have q2 : IntKind.u64.wrap (l.length : Int) = (l.length : Int) := u64_wrap _ (by omega)
    have htl2 : totN l ≤ 1000000 * 9223372036854775807 := Nat.le_trans htl (Nat.mul_le_mul_right _ hl)
    generalize totN l = t at CT hmn htl2
    generalize hm : meanN l = m at hml hmn ⊢
    obtain ⟨qa, hqa⟩ : ∃ qa, qa = t / l.length / 18446744073709551616 := ⟨_, rfl⟩
    obtain ⟨qb, hqb⟩ : ∃ qb, qb = t / l.length % 18446744073709551616 := ⟨_, rfl⟩
    obtain ⟨r, hr⟩ : ∃ r, r = t % l.length := ⟨_, rfl⟩
    obtain ⟨n, hn⟩ : ∃ n, n = l.length := ⟨_, rfl⟩
    have hqle : t / l.length ≤ t := Nat.div_le_self _ _
    have CD := Lib.hid (fun W => show Calls Tryz.prog 283 #[twoV t, .int .u64 l.length] W fun e w' => e = .returned (.tuple #[.agg #[.int .u64 qa, .int .u64 qb], .int .u64 r, .bool true]) ∧ Below W.heap.size W w' from by
      have h := wideDiv_any t l.length (by omega) hp (by omega) W
      unfold twoV at h ⊢
      rw [← hqa, ← hqb, ← hr] at h
      exact h)
    by_cases hr0 : 0 < r
    · rw [← hr, if_pos hr0] at hmn
      have CA := Lib.hid (fun W => show Calls Tryz.prog 242 #[.agg #[.int .u64 qa, .int .u64 qb], .agg #[.int .u64 0, .int .u64 1]] W fun e w' => e = .returned (.tuple #[.agg #[.int .u64 0, .int .u64 m], .bool true]) ∧ Below W.heap.size W w' from by
        have h := wideAdd_any (t / l.length) 1 (by omega) W
        unfold twoV at h
        rw [← hqa, ← hqb, ← hmn, show m / 18446744073709551616 = 0 from Nat.div_eq_of_lt (by omega), show m % 18446744073709551616 = m from Nat.mod_eq_of_lt (by omega)] at h
        exact h)
      have CS := Lib.hid (fun W => show Calls Tryz.prog 285 #[.agg #[.int .u64 0, .int .u64 m]] W fun e w' => e = .returned (.int .i64 m) ∧ Below W.heap.size W w' from by
        have h := wideSmall_any m hml W
        unfold twoV at h
        rw [show m / 18446744073709551616 = 0 from Nat.div_eq_of_lt (by omega), show m % 18446744073709551616 = m from Nat.mod_eq_of_lt (by omega)] at h
        exact h)
      have q5 : (0 : Int) < (r : Int) := by omega
      clear hv hi hne hp htl hml hmn htl2 hqa hqb hr hn hqle hr0 hm n
      go_enter Tryz.func239, Tryz.ntmps239
      go_wp2_with (first
        | (go_at_call 284
           refine CT.out.mono ?_
           rintro e w1 ⟨rfl, hb1⟩
           have HB1 := Lib.hid hb1
           clear hb1)
        | (go_at_call 283
           refine (CD.out w1).mono ?_
           rintro e w2 ⟨rfl, hb2⟩
           have HB2 := Lib.hid (bthen HB1.out hb2)
           clear hb2)
        | (go_at_call 242
           refine calls_named ?_
           intro W3 hW3
           have hb3 : Below w2.heap.size w2 W3 := by rw [hW3]; exact balloc (Below.refl _ _) _
           have hx3 : W3.heap[w2.heap.size]? = some (.cells #[.int .u64 qa, .int .u64 qb] 272 (0, 0)) := by rw [hW3]; exact heap_alloc_new _ _
           clear hW3
           refine (CA.out W3).mono ?_
           rintro e w4 ⟨rfl, hb4⟩
           have HX4 := Lib.hid (box_below (w := w) hx3 hb4)
           obtain ⟨e1, e2, e3⟩ := box_cells (Below.refl _ _) HX4.out
           have HB4 := Lib.hid (bthen HB2.out (bthen hb3 hb4))
           have HS4 := Lib.hid (show w.heap.size ≤ w2.heap.size from HB2.out.size)
           clear hb3 hx3 hb4)
        | (go_at_call 285
           refine (CS.out _).mono ?_
           rintro e w5 ⟨rfl, hb5⟩
           have HB5 := Lib.hid (bthen ((HB4.out.setCell HS4.out _).setCell HS4.out _) hb5)
           clear hb5))
      go_ret
      exact ⟨rfl, HB5.out⟩
    · rw [← hr, if_neg hr0] at hmn
      have CS := Lib.hid (fun W => show Calls Tryz.prog 285 #[.agg #[.int .u64 qa, .int .u64 qb]] W fun e w' => e = .returned (.int .i64 m) ∧ Below W.heap.size W w' from by
        have h := wideSmall_any m hml W
        unfold twoV at h
        rw [hmn, ← hqa, ← hqb] at h
        rw [hmn]
        exact h)
      obtain rfl : r = 0 := by omega
      clear hv hi hne hp htl hml hmn htl2 hqa hqb hr hn hqle hr0 hm n
      go_enter Tryz.func239, Tryz.ntmps239
      go_wp2_with (first
        | (go_at_call 284
           refine CT.out.mono ?_
           rintro e w1 ⟨rfl, hb1⟩
           have HB1 := Lib.hid hb1
           clear hb1)
        | (go_at_call 283
           refine (CD.out w1).mono ?_
           rintro e w2 ⟨rfl, hb2⟩
           have HB2 := Lib.hid (bthen HB1.out hb2)
           clear hb2)
        | (go_at_call 285
           refine (CS.out _).mono ?_
           rintro e w5 ⟨rfl, hb5⟩
           have HB5 := Lib.hid (bthen (balloc HB2.out _) hb5)
           clear hb5))
      go_ret
      exact ⟨rfl, HB5.out⟩
end

end Go.Proofs.YtmniiodpbebnmaaGreat
