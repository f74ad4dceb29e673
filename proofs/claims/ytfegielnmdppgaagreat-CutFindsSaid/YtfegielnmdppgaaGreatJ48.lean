/- Walks of sat's sums and window's lists; Walks of window's Cut and Values, of slices.Min and Max; Walks of wide's Total and Mean, of window's Of, At and Merge; Walks of wide.Mean, window.Of and At; Walks of window.Of, At; Walks of sat.Ceil and window.Merge; A cut's Stat and Total; A cut's Total; A stripe behind acts: all its samples are in range; What a nil cut answers; The walk of CutDiffers; chapter 19's has: a node has just a load; The walk of CutFinds; The short ways of cfinds; Calls as they come in; Acts on a stripe as they come in, their samples in range; a config that may be; CutFinds, whole. -/
import Derived.Test.YtfegielnmdppgaaGreatJ46
import Derived.Test.YtfegielnmdppgaaGreatJ47
import Derived.Deep.DeepCutAuto
import Derived.Test.YtfegielnmdppgaaGreatJ45
import Derived.Test.YtfegielnmdppgaaGreatJ36
import Derived.Test.YtfegielnmdppgaaGreatJ15
import Derived.Test.YtfegielnmdppgaaGreatJ16
import Derived.Test.YtfegielnmdppgaaGreatJ34
import Derived.Test.YtfegielnmdppgaaGreatJ08
import Derived.Test.YtfegielnmdppgaaGreatJ01
import Derived.Deep.Slices
import Derived.Lib.SmallJoins
import Derived.Test.YtfegielnmdppgaaGreatJ35
namespace Go.Proofs.YtfegielnmdppgaaGreat

section
set_option linter.unusedSimpArgs false
set_option linter.unusedVariables false
open Go.RowKit Go.Lib

theorem eNm : EltOf 206 2 1 8 (.int .i64 0) nmC :=
  ⟨by kernel_rfl, by kernel_rfl, rfl, by decide, by decide, fun _ => rfl, fun x u hu => by
    simp only [nmC, List.mem_cons, List.not_mem_nil, or_false] at hu
    rcases hu with rfl
    rfl⟩

set_option maxRecDepth 100000 in
set_option maxHeartbeats 1000000 in
theorem satSub_any (a b : Int) (w : World) (ha : I64 a) (hb : I64 b) :
    Calls Tryz.prog 180 #[.int .i64 a, .int .i64 b] w fun e w' => e = .returned (.int .i64 (endsI (a - b))) ∧ w = w' := by
  by_cases h : b = -9223372036854775808
  · subst h
    obtain ⟨s, hs⟩ : ∃ s, s = endsI (a + 9223372036854775807) := ⟨_, rfl⟩
    obtain ⟨t, ht⟩ : ∃ t : Int, t = if decide (a < 0) = true then 1 else 0 := ⟨_, rfl⟩
    have HE := Lib.hid (show endsI (s + t) = endsI (a - -9223372036854775808) by rw [hs, ht]; exact sub_end ha _ rfl)
    have HT := Lib.hid ht
    have HS := Lib.hid (show I64 s by rw [hs]; exact endsI_i64 _)
    have HS2 := Lib.hid hs
    have HA := Lib.hid ha
    have HTI := Lib.hid (show I64 t by rw [ht]; unfold I64; split <;> omega)
    clear hs ht ha hb
    go_enter Tryz.func180, Tryz.ntmps180
    go_wp2_with (first
      | (go_at_call 223
         refine (satBit_any _ _).mono ?_
         rw [← HT.out]
         rintro e w1 ⟨rfl, rfl⟩
         have HB := Lib.hid True.intro)
      | (go_at_call 124
         have h9 := HB
         refine (satAdd_any s t _ HS.out HTI.out).mono ?_
         rw [HE.out]
         rintro e w1 ⟨rfl, rfl⟩
         clear h9)
      | (go_at_call 124
         refine (satAdd_any a 9223372036854775807 _ HA.out (by unfold I64; omega)).mono ?_
         rw [← HS2.out]
         rintro e w1 ⟨rfl, rfl⟩))
    go_ret
    exact ⟨rfl, rfl⟩
  · have HE := Lib.hid (show endsI (a + IntKind.i64.wrap (-b)) = endsI (a - b) from sub_ends ha hb h)
    have hn : I64 (-b) := by unfold I64 at *; omega
    have q1 : wrap64 (-b) = -b := by unfold I64 at hn; unfold wrap64; omega
    have q2 : IntKind.i64.wrap (-b) = -b := by unfold I64 at hn; rw [IntKind.wrap_i64]; omega
    rw [q2] at HE
    have HA := Lib.hid ha
    have HN := Lib.hid hn
    have q3 : (b == -9223372036854775808) = false := by simpa using h
    clear ha hb hn
    go_enter Tryz.func180, Tryz.ntmps180
    go_wp2_with (first
      | (go_at_call 124
         refine (satAdd_any a (-b) _ HA.out HN.out).mono ?_
         rw [HE.out]
         rintro e w1 ⟨rfl, rfl⟩))
    go_ret
    exact ⟨rfl, rfl⟩

set_option maxRecDepth 100000 in
set_option maxHeartbeats 1000000 in
theorem winFrom_any (a b : Int) (w : World) (ha : I64 a) (hb : I64 b) :
    Calls Tryz.prog 136 #[.int .i64 a, .int .i64 b] w fun e w' => e = .returned (.int .i64 (fromW a b)) ∧ w = w' := by
  have C1 := Lib.hid (satSub_any a b w ha hb)
  have C2 := Lib.hid (satAdd_any (endsI (a - b)) 1 w (endsI_i64 _) (by unfold I64; omega))
  unfold fromW
  generalize endsI (a - b) = s at C1 C2 ⊢
  generalize endsI (s + 1) = t at C2 ⊢
  clear ha hb
  go_enter Tryz.func136, Tryz.ntmps136
  go_wp2_with (first
    | (go_at_call 180
       refine C1.out.mono ?_
       rintro e w1 ⟨rfl, rfl⟩)
    | (go_at_call 124
       refine C2.out.mono ?_
       rintro e w1 ⟨rfl, rfl⟩))
  go_ret
  exact ⟨rfl, rfl⟩

set_option maxRecDepth 100000 in
set_option maxHeartbeats 1000000 in
theorem satSum_any (v : Value) (l : List Int) (w : World) (hv : RowIn 1 nmC w v l) (hl : l.length ≤ 1000000) (hi : ∀ n ∈ l, I64 n) :
    Calls Tryz.prog 176 #[v] w fun e w' => e = .returned (.int .i64 (sumE l 0)) ∧ w = w' := by
  obtain ⟨A, c, rfl⟩ := hv.form
  have HV := Lib.hid hv
  have HI := Lib.hid hi
  have hl9 : l.length ≤ 9223372036854775807 := by omega
  clear hv hi
  go_enter Tryz.func176, Tryz.ntmps176
  go_wp2
  go_loopg [3, 8] l.length (fun g s3 s8 wr => ∃ k : Nat, k ≤ l.length ∧ l.length - k ≤ g ∧ s8 = .int .i64 k ∧ s3 = .int .i64 (sumE (l.take k) 0) ∧ w = wr)
  case atStart => exact ⟨0, Nat.zero_le _, Nat.le_refl _, rfl, by simp [sumE], rfl⟩
  case round =>
    obtain ⟨k, hk, hg, rfl, rfl, rfl⟩ := hrel
    by_cases hlt : k < l.length
    · obtain ⟨b1, o1, rfl, hb1, hc⟩ := HV.out.at_ hlt
      have z1 : (0 : Int) ≤ (k : Int) := by omega
      have z2 : (k : Int) < (l.length : Int) := by omega
      have HS := Lib.hid (show sumE (l.take (k + 1)) 0 = endsI (sumE (l.take k) 0 + l[k]) by rw [List.take_succ_eq_append_getElem hlt, sumE_snoc])
      have d0 := hc 0 _ rfl
      rw [Nat.add_zero, Nat.mul_one] at d0
      have HN := Lib.hid (satAdd_any (sumE (l.take k) 0) l[k] w (sumE_i64 _ _ i64_0) (HI.out _ (List.getElem_mem hlt)))
      rw [← HS.out] at HN
      generalize sumE (l.take k) 0 = s at HN ⊢
      generalize l[k] = x at HN d0
      clear hc HS
      go_wp2_with (first
        | (go_at_call 124
           refine HN.out.mono ?_
           rintro e w1 ⟨rfl, rfl⟩))
      go_roundg (l.length - (k + 1))
      case measure => omega
      case rel => exact ⟨k + 1, hlt, Nat.le_refl _, by go_num, rfl, rfl⟩
    · obtain rfl : k = l.length := by omega
      rw [List.take_length]
      go_wp2
      go_ret
      exact ⟨rfl, rfl⟩
end

section
set_option linter.unusedSimpArgs false
set_option linter.unusedVariables false
open Go.RowKit Go.Lib

set_option maxRecDepth 100000 in
set_option maxHeartbeats 2000000 in
theorem winCut_any (v : Value) (l : List Smp) (a b : Int) (w : World) (hv : RowIn 2 smpC w v l) (hl : l.length ≤ 1000000) :
    Calls Tryz.prog 135 #[v, .int .i64 a, .int .i64 b] w fun e w' => ∃ A c, e = .returned (.slice A (winC l a b).length c) ∧ OwnL smpC 42 2 w.heap.size w' (.slice A (winC l a b).length c) (winC l a b) ∧ Below w.heap.size w w' := by
  obtain ⟨A, c, rfl⟩ := hv.form
  have HV := Lib.hid hv
  have HL := Lib.hid hl
  have hl9 : l.length ≤ 9223372036854775807 := by omega
  clear hv hl
  go_enter Tryz.func135, Tryz.ntmps135
  go_wp2
  go_loopg [7, 12] l.length (fun g s7 s12 wr => ∃ k : Nat, k ≤ l.length ∧ l.length - k ≤ g ∧ s12 = .int .i64 k ∧ OwnL smpC 42 2 w.heap.size wr s7 (winC (l.take k) a b) ∧ Below w.heap.size w wr)
  case atStart => exact ⟨0, Nat.zero_le _, Nat.le_refl _, rfl, by simp [winC]; exact OwnL.nil _ _, Below.refl _ _⟩
  case round =>
    obtain ⟨k, hk, hg, rfl, hown, hb⟩ := hrel
    rename World => wr
    obtain ⟨pre, hpre⟩ : ∃ pre, pre = winC (l.take k) a b := ⟨_, rfl⟩
    rw [← hpre] at hown
    obtain ⟨A5, c5, rfl⟩ := hown.form
    have HPL := Lib.hid (show pre.length ≤ k by rw [hpre]; exact Nat.le_trans (cut_len _ _ _) (by simp; omega))
    have HPRE := Lib.hid hpre
    have HO := Lib.hid hown
    have HB := Lib.hid hb
    clear hpre hown hb
    by_cases hlt : k < l.length
    · obtain ⟨b1, o1, rfl, hb1, hc⟩ := (HV.out.below HB.out).at_ hlt
      have z1 : (0 : Int) ≤ (k : Int) := by omega
      have z2 : (k : Int) < (l.length : Int) := by omega
      have HTK := Lib.hid (show winC (l.take (k + 1)) a b = pre ++ if a ≤ l[k].1 ∧ l[k].1 ≤ b then [l[k]] else [] by rw [List.take_succ_eq_append_getElem hlt, winC_snoc, HPRE.out])
      generalize l[k] = x at hc HTK
      have d0 := hc 0 _ rfl
      have d1 := hc 1 _ rfl
      rw [Nat.add_zero] at d0
      have HK := Lib.hid hlt
      clear hc
      by_cases h1 : a ≤ x.1
      · by_cases h2 : x.1 ≤ b
        · as_aux_lemma =>
          go_wp2_with (first
            | (at_builtin
               refine wpList_appendL eSmp (by rfl) (by rfl) w.heap.size pre [x] (.slice A5 pre.length c5) _ (by rfl) (by rfl) ((HO.out.below (balloc (balloc (Below.refl _ _) _) _))) (RowIn.lit _ x _ _ (wr.heap.size + 1) (by simp) rfl) (by have := HPL.out; have := HL.out; have := HK.out; simp; omega) (by have := HB.out.size; simp; omega) ?_
               intro out2 A9 c9 w13 hout2 hown2 hg2 _
               have HO13 := Lib.hid hout2
               have HW13 := Lib.hid hown2
               have HB13 := Lib.hid (show Below w.heap.size w w13 from (balloc (balloc HB.out _) _).trans (grown_own hg2 HO.out (by have := HB.out.size; simp; omega)))
               clear hout2 hown2 hg2))
          go_roundg (l.length - (k + 1))
          case measure => omega
          case rel => exact ⟨k + 1, HK.out, Nat.le_refl _, by go_num, by rw [HTK.out, if_pos ⟨h1, h2⟩, ← HO13.out]; exact HW13.out, HB13.out⟩
        · as_aux_lemma =>
          go_wp2_with fail
          go_roundg (l.length - (k + 1))
          case measure => omega
          case rel => exact ⟨k + 1, HK.out, Nat.le_refl _, by go_num, by rw [HTK.out, if_neg (by omega), List.append_nil]; exact HO.out.below (balloc (Below.refl _ _) _), balloc HB.out _⟩
      · as_aux_lemma =>
        go_wp2_with fail
        go_roundg (l.length - (k + 1))
        case measure => omega
        case rel => exact ⟨k + 1, HK.out, Nat.le_refl _, by go_num, by rw [HTK.out, if_neg (by omega), List.append_nil]; exact HO.out.below (balloc (Below.refl _ _) _), balloc HB.out _⟩
    · obtain rfl : k = l.length := by omega
      have hp := HPRE.out
      rw [List.take_length] at hp
      have HP := Lib.hid hp
      clear hp
      go_wp2_with fail
      go_ret
      exact ⟨A5, c5, by rw [HP.out]; rfl, by rw [← HP.out]; exact HO.out, HB.out⟩

set_option maxRecDepth 100000 in
set_option maxHeartbeats 2000000 in
theorem winVals_any (v : Value) (l : List Smp) (w : World) (hv : RowIn 2 smpC w v l) (hl : l.length ≤ 1000000) :
    Calls Tryz.prog 175 #[v] w fun e w' => ∃ A c, e = .returned (.slice A (valsW l).length c) ∧ OwnL nmC 2 1 w.heap.size w' (.slice A (valsW l).length c) (valsW l) ∧ Below w.heap.size w w' := by
  obtain ⟨A, c, rfl⟩ := hv.form
  have HV := Lib.hid hv
  have HL := Lib.hid hl
  have hl9 : l.length ≤ 9223372036854775807 := by omega
  clear hv hl
  go_enter Tryz.func175, Tryz.ntmps175
  go_wp2
  go_loopg [3, 8] l.length (fun g s7 s12 wr => ∃ k : Nat, k ≤ l.length ∧ l.length - k ≤ g ∧ s12 = .int .i64 k ∧ OwnL nmC 2 1 w.heap.size wr s7 (valsW (l.take k)) ∧ Below w.heap.size w wr)
  case atStart => exact ⟨0, Nat.zero_le _, Nat.le_refl _, rfl, by simp [valsW]; exact OwnL.nil _ _, Below.refl _ _⟩
  case round =>
    obtain ⟨k, hk, hg, rfl, hown, hb⟩ := hrel
    rename World => wr
    obtain ⟨pre, hpre⟩ : ∃ pre, pre = valsW (l.take k) := ⟨_, rfl⟩
    rw [← hpre] at hown
    obtain ⟨A5, c5, rfl⟩ := hown.form
    have HPL := Lib.hid (show pre.length ≤ k by rw [hpre, vals_len]; simp; omega)
    have HPRE := Lib.hid hpre
    have HO := Lib.hid hown
    have HB := Lib.hid hb
    clear hpre hown hb
    by_cases hlt : k < l.length
    · obtain ⟨b1, o1, rfl, hb1, hc⟩ := (HV.out.below HB.out).at_ hlt
      have z1 : (0 : Int) ≤ (k : Int) := by omega
      have z2 : (k : Int) < (l.length : Int) := by omega
      have HTK := Lib.hid (show valsW (l.take (k + 1)) = pre ++ [max l[k].2 0] by rw [List.take_succ_eq_append_getElem hlt, valsW_snoc, HPRE.out])
      generalize l[k] = x at hc HTK
      have d0 := hc 0 _ rfl
      have d1 := hc 1 _ rfl
      rw [Nat.add_zero] at d0
      have HK := Lib.hid hlt
      clear hc
      go_wp2_with (first
        | (at_builtin
           refine wpList_appendL eNm (by rfl) (by rfl) w.heap.size pre [max x.2 0] (.slice A5 pre.length c5) _ (by rfl) (by rfl) ((HO.out.below (balloc (balloc (Below.refl _ _) _) _))) (RowIn.lit _ (max x.2 0) _ _ (wr.heap.size + 1) (by simp) (by simp [nmC])) (by have := HPL.out; have := HL.out; have := HK.out; simp; omega) (by have := HB.out.size; simp; omega) ?_
           intro out2 A9 c9 w13 hout2 hown2 hg2 _
           have HO13 := Lib.hid hout2
           have HW13 := Lib.hid hown2
           have HB13 := Lib.hid (show Below w.heap.size w w13 from (balloc (balloc HB.out _) _).trans (grown_own hg2 HO.out (by have := HB.out.size; simp; omega)))
           clear hout2 hown2 hg2))
      go_roundg (l.length - (k + 1))
      case measure => omega
      case rel => exact ⟨k + 1, HK.out, Nat.le_refl _, by go_num, by rw [HTK.out, ← HO13.out]; exact HW13.out, HB13.out⟩
    · obtain rfl : k = l.length := by omega
      have hp := HPRE.out
      rw [List.take_length] at hp
      have HP := Lib.hid hp
      clear hp
      go_wp2_with fail
      go_ret
      exact ⟨A5, c5, by rw [HP.out]; rfl, by rw [← HP.out]; exact HO.out, HB.out⟩

set_option maxRecDepth 100000 in
set_option maxHeartbeats 2000000 in
theorem slMin_any (v : Value) (l : List Int) (w : World) (hv : RowIn 1 nmC w v l) (hl : l.length ≤ 1000000) (hne : l ≠ []) :
    Calls Tryz.prog 177 #[v] w fun e w' => e = .returned (.int .i64 (minL l)) ∧ w = w' := by
  obtain ⟨A, c, rfl⟩ := hv.form
  have HV := Lib.hid hv
  have hl9 : l.length ≤ 9223372036854775807 := by omega
  have hp : 0 < l.length := List.length_pos_iff.2 hne
  have z0 : ¬ (l.length : Int) < 1 := by omega
  have z3 : (0 : Int) < (l.length : Int) := by omega
  obtain ⟨b1, o1, rfl, hb1, hc⟩ := HV.out.at_ hp
  have d0 := hc 0 _ rfl
  simp only [Nat.zero_mul, Nat.add_zero] at d0
  have HP := Lib.hid hp
  have HFST := Lib.hid (show minL (l.take 1) = l[0] by
    rw [List.take_one]
    cases l with
    | nil => exact absurd rfl hne
    | cons a l => rfl)
  generalize l[0] = x0 at d0 HFST
  clear hv hc hne hp
  go_enter Tryz.func177, Tryz.ntmps177
  go_wp2
  go_loopg [3, 4] l.length (fun g s3 s8 wr => ∃ k : Nat, 1 ≤ k ∧ k ≤ l.length ∧ l.length - k ≤ g ∧ s8 = .int .i64 k ∧ s3 = .int .i64 (minL (l.take k)) ∧ w = wr)
  case atStart => exact ⟨1, Nat.le_refl _, HP.out, by omega, rfl, by rw [HFST.out], rfl⟩
  case round =>
    obtain ⟨k, hk1, hk, hg, rfl, rfl, rfl⟩ := hrel
    by_cases hlt : k < l.length
    · obtain ⟨b2, o2, he, hb2, hc⟩ := HV.out.at_ hlt
      injection he with he
      injection he with e1 e2
      subst e1 e2
      have z1 : (0 : Int) ≤ (k : Int) := by omega
      have z2 : (k : Int) < (l.length : Int) := by omega
      have HS := Lib.hid (show minL (l.take (k + 1)) = min (minL (l.take k)) l[k] by rw [List.take_succ_eq_append_getElem hlt, minL_snoc (by intro q; have := congrArg List.length q; rw [List.length_take, List.length_nil] at this; omega)])
      have d2 := hc 0 _ rfl
      rw [Nat.add_zero, Nat.mul_one] at d2
      generalize minL (l.take k) = s at HS ⊢
      generalize l[k] = x at HS d2
      clear hc d0
      go_wp2
      go_roundg (l.length - (k + 1))
      case measure => omega
      case rel => exact ⟨k + 1, by omega, hlt, Nat.le_refl _, by go_num, by rw [HS.out], rfl⟩
    · obtain rfl : k = l.length := by omega
      rw [List.take_length]
      go_wp2
      go_ret
      exact ⟨rfl, rfl⟩
set_option maxRecDepth 100000 in
set_option maxHeartbeats 2000000 in
theorem slMax_any (v : Value) (l : List Int) (w : World) (hv : RowIn 1 nmC w v l) (hl : l.length ≤ 1000000) (hne : l ≠ []) :
    Calls Tryz.prog 178 #[v] w fun e w' => e = .returned (.int .i64 (maxL l)) ∧ w = w' := by
  obtain ⟨A, c, rfl⟩ := hv.form
  have HV := Lib.hid hv
  have hl9 : l.length ≤ 9223372036854775807 := by omega
  have hp : 0 < l.length := List.length_pos_iff.2 hne
  have z0 : ¬ (l.length : Int) < 1 := by omega
  have z3 : (0 : Int) < (l.length : Int) := by omega
  obtain ⟨b1, o1, rfl, hb1, hc⟩ := HV.out.at_ hp
  have d0 := hc 0 _ rfl
  simp only [Nat.zero_mul, Nat.add_zero] at d0
  have HP := Lib.hid hp
  have HFST := Lib.hid (show maxL (l.take 1) = l[0] by
    rw [List.take_one]
    cases l with
    | nil => exact absurd rfl hne
    | cons a l => rfl)
  generalize l[0] = x0 at d0 HFST
  clear hv hc hne hp
  go_enter Tryz.func178, Tryz.ntmps178
  go_wp2
  go_loopg [3, 4] l.length (fun g s3 s8 wr => ∃ k : Nat, 1 ≤ k ∧ k ≤ l.length ∧ l.length - k ≤ g ∧ s8 = .int .i64 k ∧ s3 = .int .i64 (maxL (l.take k)) ∧ w = wr)
  case atStart => exact ⟨1, Nat.le_refl _, HP.out, by omega, rfl, by rw [HFST.out], rfl⟩
  case round =>
    obtain ⟨k, hk1, hk, hg, rfl, rfl, rfl⟩ := hrel
    by_cases hlt : k < l.length
    · obtain ⟨b2, o2, he, hb2, hc⟩ := HV.out.at_ hlt
      injection he with he
      injection he with e1 e2
      subst e1 e2
      have z1 : (0 : Int) ≤ (k : Int) := by omega
      have z2 : (k : Int) < (l.length : Int) := by omega
      have HS := Lib.hid (show maxL (l.take (k + 1)) = max (maxL (l.take k)) l[k] by rw [List.take_succ_eq_append_getElem hlt, maxL_snoc (by intro q; have := congrArg List.length q; rw [List.length_take, List.length_nil] at this; omega)])
      have d2 := hc 0 _ rfl
      rw [Nat.add_zero, Nat.mul_one] at d2
      generalize maxL (l.take k) = s at HS ⊢
      generalize l[k] = x at HS d2
      clear hc d0
      go_wp2
      go_roundg (l.length - (k + 1))
      case measure => omega
      case rel => exact ⟨k + 1, by omega, hlt, Nat.le_refl _, by go_num, by rw [HS.out], rfl⟩
    · obtain rfl : k = l.length := by omega
      rw [List.take_length]
      go_wp2
      go_ret
      exact ⟨rfl, rfl⟩
end

section
set_option linter.unusedSimpArgs false
set_option linter.unusedVariables false
open Go.RowKit Go.Lib

theorem box_below {w wr w' : World} {B : Nat} {cs : Array Value} {T : TypeId} (h : wr.heap[B]? = some (.cells cs T (0, 0))) (hb : Below wr.heap.size wr w') : w'.heap[B]? = some (.cells cs T (0, 0)) :=
  (hb.block _ (Array.getElem?_eq_some_iff.1 h).1).trans h

set_option maxRecDepth 100000 in
set_option maxHeartbeats 2000000 in
theorem wideTotal_any (v : Value) (l : List Int) (w : World) (hv : RowIn 1 nmC w v l) (hl : l.length ≤ 1000000) (hi : ∀ n ∈ l, 0 ≤ n ∧ n ≤ 9223372036854775807) :
    Calls Tryz.prog 220 #[v] w fun e w' => e = .returned (twoV (totN l)) ∧ Below w.heap.size w w' := by
  obtain ⟨A, c, rfl⟩ := hv.form
  have HV := Lib.hid hv
  have HI := Lib.hid hi
  have HL := Lib.hid hl
  have hl9 : l.length ≤ 9223372036854775807 := by omega
  clear hv hi hl
  go_enter Tryz.func220, Tryz.ntmps220
  go_wp2
  go_loopg [8] l.length (fun g s8 wr => ∃ (k a b : Nat), k ≤ l.length ∧ l.length - k ≤ g ∧ s8 = .int .i64 k ∧ Hid (a = totN (l.take k) / 18446744073709551616 ∧ b = totN (l.take k) % 18446744073709551616) ∧ Below w.heap.size w wr ∧ wr.heap[w.heap.size]? = some (.cells #[.int .u64 0, .int .u64 0] 295 (0, 0)) ∧ wr.heap[w.heap.size + 1]? = some (.cells #[.int .u64 a, .int .u64 b] 295 (0, 0)))
  case atStart => exact ⟨0, 0, 0, Nat.zero_le _, Nat.le_refl _, rfl, Lib.hid (by simp [totN]), balloc (balloc (Below.refl _ _) _) _, box_old _ _ _, box_new _ _ _⟩
  case round =>
    obtain ⟨k, a, b, hk, hg, rfl, HAB, hb, hz, hq⟩ := hrel
    rename World => wr
    have HB := Lib.hid hb
    have HZ := Lib.hid hz
    have HQ := Lib.hid hq
    obtain ⟨a1, a2, a3⟩ := box_cells (Below.refl _ _) hz
    obtain ⟨c1, c2, c3⟩ := box_cells (Below.refl _ _) hq
    clear hb hz hq
    by_cases hlt : k < l.length
    · obtain ⟨b1, o1, rfl, hb1, hc⟩ := (HV.out.below HB.out).at_ hlt
      have z1 : (0 : Int) ≤ (k : Int) := by omega
      have z2 : (k : Int) < (l.length : Int) := by omega
      have HTK := Lib.hid (show totN (l.take (k + 1)) = totN (l.take k) + l[k].toNat by rw [List.take_succ_eq_append_getElem hlt, totN_snoc])
      have hx := HI.out _ (List.getElem_mem hlt)
      have HTL := Lib.hid (show totN (l.take k) ≤ 1000000 * 9223372036854775807 from Nat.le_trans (totN_le (fun n hn => (HI.out n (List.mem_of_mem_take hn)).2)) (Nat.mul_le_mul_right _ (by rw [List.length_take]; have := HL.out; omega)))
      generalize l[k] = x at hc HTK hx
      have d0 := hc 0 _ rfl
      rw [Nat.add_zero, Nat.mul_one] at d0
      have HK := Lib.hid hlt
      clear hc
      by_cases h0 : 0 < x
      · obtain ⟨y, rfl⟩ : ∃ y : Nat, x = y := ⟨x.toNat, by omega⟩
        have hy : y ≤ 9223372036854775807 := by omega
        have q1 : IntKind.u64.wrap (y : Int) = (y : Int) := u64_wrap y (by omega)
        obtain ⟨a', ha'⟩ : ∃ a', a' = totN (l.take (k + 1)) / 18446744073709551616 := ⟨_, rfl⟩
        obtain ⟨b', hb'⟩ : ∃ b', b' = totN (l.take (k + 1)) % 18446744073709551616 := ⟨_, rfl⟩
        have HAB2 := Lib.hid (And.intro ha' hb')
        have CA := Lib.hid (fun W => show Calls Tryz.prog 221 #[.agg #[.int .u64 a, .int .u64 b], .agg #[.int .u64 0, .int .u64 y]] W fun e w' => e = .returned (.tuple #[.agg #[.int .u64 a', .int .u64 b'], .bool true]) ∧ Below W.heap.size W w' from by
          have h := wideAdd_any (totN (l.take k)) y (by have := HTL.out; omega) W
          have e1 : y / 18446744073709551616 = 0 := Nat.div_eq_of_lt (by omega)
          have e2 : y % 18446744073709551616 = y := Nat.mod_eq_of_lt (by omega)
          have e3 : totN (l.take k) + y = totN (l.take (k + 1)) := by rw [HTK.out]; simp
          unfold twoV at h
          rw [e3, e1, e2, ← HAB.out.1, ← HAB.out.2, ← ha', ← hb'] at h
          exact h)
        have h0' : (0 : Int) < (y : Int) := h0
        clear ha' hb' hx hy h0
        as_aux_lemma =>
        go_wp2_with (first
          | (go_at_call 221
             refine (CA.out wr).mono ?_
             rintro e w3 ⟨rfl, hb3⟩
             have HZ3 := Lib.hid (box_below (w := w) HZ.out hb3)
             have HQ3 := Lib.hid (box_below (w := w) HQ.out hb3)
             obtain ⟨e1, e2, e3⟩ := box_cells (Below.refl _ _) HQ3.out
             have HB3 := Lib.hid (bthen HB.out hb3)
             clear hb3))
        go_roundg (l.length - (k + 1))
        case measure => omega
        case rel => exact ⟨k + 1, a', b', HK.out, Nat.le_refl _, by go_num, HAB2, (HB3.out.setCell (by simp) _).setCell (by simp) _, heap_set_ne (heap_set_ne HZ3.out (by omega)) (by omega), setCell_block (setCell_block HQ3.out)⟩
      · obtain rfl : x = 0 := by omega
        have e3 : totN (l.take (k + 1)) = totN (l.take k) := by rw [HTK.out]; simp
        have HAB2 := Lib.hid (show a = totN (l.take (k + 1)) / 18446744073709551616 ∧ b = totN (l.take (k + 1)) % 18446744073709551616 by rw [e3]; exact HAB.out)
        clear e3 hx h0
        as_aux_lemma =>
        go_wp2_with fail
        go_roundg (l.length - (k + 1))
        case measure => omega
        case rel => exact ⟨k + 1, a, b, HK.out, Nat.le_refl _, by go_num, HAB2, HB.out, HZ.out, HQ.out⟩
    · obtain rfl : k = l.length := by omega
      rw [List.take_length] at HAB
      go_wp2_with fail
      have hz2 := setCell_block (i := 1) (v := .int .u64 b) (setCell_block (i := 0) (v := .int .u64 a) HZ.out)
      obtain ⟨f1, f2, f3⟩ := box_cells (Below.refl _ _) hz2
      refine bodyPost_ret (v := .agg #[.int .u64 a, .int .u64 b]) (by simp [results, Tryz.results220, go_sem, f1]) rfl ⟨?_, (HB.out.setCell (Nat.le_refl _) _).setCell (Nat.le_refl _) _⟩
      unfold twoV
      rw [HAB.out.1, HAB.out.2]
end

section
set_option linter.unusedSimpArgs false
set_option linter.unusedVariables false
open Go.RowKit Go.Lib

theorem mean_law (t d : Nat) (hd : 0 < d) : (t + (d - 1)) / d = if 0 < t % d then t / d + 1 else t / d := by
  have h := Nat.div_add_mod t d
  have hm := Nat.mod_lt t hd
  generalize t / d = q at *
  generalize t % d = r at *
  subst h
  split
  · rw [Nat.add_assoc, Nat.mul_add_div hd]
    have : (r + (d - 1)) / d = 1 := by
      rw [Nat.div_eq_iff hd]
      omega
    omega
  · rw [Nat.add_assoc, Nat.mul_add_div hd, Nat.div_eq_of_lt (by omega)]
    rfl

set_option maxRecDepth 100000 in
set_option maxHeartbeats 2000000 in
theorem wideMean_any (v : Value) (l : List Int) (w : World) (hv : RowIn 1 nmC w v l) (hl : l.length ≤ 1000000) (hi : ∀ n ∈ l, 0 ≤ n ∧ n ≤ 9223372036854775807) :
    Calls Tryz.prog 179 #[v] w fun e w' => e = .returned (.int .i64 (meanN l : Nat)) ∧ Below w.heap.size w w' := by
  obtain ⟨A, c, rfl⟩ := hv.form
  have hl9 : l.length ≤ 9223372036854775807 := by omega
  by_cases hne : l = []
  · have q1 : (l.length : Int) = 0 := by rw [hne]; rfl
    have HM := Lib.hid (show meanN l = 0 by rw [hne]; rfl)
    have q2 : ((l.length : Int) == 0) = true := by simp [hne]
    clear hv hi hne
    go_enter Tryz.func179, Tryz.ntmps179
    go_wp2_with fail
    go_ret
    exact ⟨by rw [HM.out]; rfl, Below.refl _ _⟩
  · have hp : 0 < l.length := List.length_pos_iff.2 hne
    have CT := Lib.hid (wideTotal_any _ l w hv hl hi)
    have htl := totN_le (fun n hn => (hi n hn).2)
    have hml := meanN_le (fun n hn => (hi n hn).2)
    have hmn : meanN l = if 0 < totN l % l.length then totN l / l.length + 1 else totN l / l.length := by
      unfold meanN
      rw [if_neg hne, mean_law _ _ hp]
    have q0 : ¬ (l.length : Int) = 0 := by omega
    have q1 : ((l.length : Int) == 0) = false := by simpa using hne
    have q2 : IntKind.u64.wrap (l.length : Int) = (l.length : Int) := u64_wrap _ (by omega)
    have htl2 : totN l ≤ 1000000 * 9223372036854775807 := Nat.le_trans htl (Nat.mul_le_mul_right _ hl)
    generalize totN l = t at CT hmn htl2
    generalize hm : meanN l = m at hml hmn ⊢
    obtain ⟨qa, hqa⟩ : ∃ qa, qa = t / l.length / 18446744073709551616 := ⟨_, rfl⟩
    obtain ⟨qb, hqb⟩ : ∃ qb, qb = t / l.length % 18446744073709551616 := ⟨_, rfl⟩
    obtain ⟨r, hr⟩ : ∃ r, r = t % l.length := ⟨_, rfl⟩
    obtain ⟨n, hn⟩ : ∃ n, n = l.length := ⟨_, rfl⟩
    have hqle : t / l.length ≤ t := Nat.div_le_self _ _
    have CD := Lib.hid (fun W => show Calls Tryz.prog 219 #[twoV t, .int .u64 l.length] W fun e w' => e = .returned (.tuple #[.agg #[.int .u64 qa, .int .u64 qb], .int .u64 r, .bool true]) ∧ Below W.heap.size W w' from by
      have h := wideDiv_any t l.length (by omega) hp (by omega) W
      unfold twoV at h ⊢
      rw [← hqa, ← hqb, ← hr] at h
      exact h)
    by_cases hr0 : 0 < r
    · rw [← hr, if_pos hr0] at hmn
      have CA := Lib.hid (fun W => show Calls Tryz.prog 221 #[.agg #[.int .u64 qa, .int .u64 qb], .agg #[.int .u64 0, .int .u64 1]] W fun e w' => e = .returned (.tuple #[.agg #[.int .u64 0, .int .u64 m], .bool true]) ∧ Below W.heap.size W w' from by
        have h := wideAdd_any (t / l.length) 1 (by omega) W
        unfold twoV at h
        rw [← hqa, ← hqb, ← hmn, show m / 18446744073709551616 = 0 from Nat.div_eq_of_lt (by omega), show m % 18446744073709551616 = m from Nat.mod_eq_of_lt (by omega)] at h
        exact h)
      have CS := Lib.hid (fun W => show Calls Tryz.prog 222 #[.agg #[.int .u64 0, .int .u64 m]] W fun e w' => e = .returned (.int .i64 m) ∧ Below W.heap.size W w' from by
        have h := wideSmall_any m hml W
        unfold twoV at h
        rw [show m / 18446744073709551616 = 0 from Nat.div_eq_of_lt (by omega), show m % 18446744073709551616 = m from Nat.mod_eq_of_lt (by omega)] at h
        exact h)
      have q5 : (0 : Int) < (r : Int) := by omega
      clear hv hi hne hp htl hml hmn htl2 hqa hqb hr hn hqle hr0 hm n
      go_enter Tryz.func179, Tryz.ntmps179
      go_wp2_with (first
        | (go_at_call 220
           refine CT.out.mono ?_
           rintro e w1 ⟨rfl, hb1⟩
           have HB1 := Lib.hid hb1
           clear hb1)
        | (go_at_call 219
           refine (CD.out w1).mono ?_
           rintro e w2 ⟨rfl, hb2⟩
           have HB2 := Lib.hid (bthen HB1.out hb2)
           clear hb2)
        | (go_at_call 221
           refine calls_named ?_
           intro W3 hW3
           have hb3 : Below w2.heap.size w2 W3 := by rw [hW3]; exact balloc (Below.refl _ _) _
           have hx3 : W3.heap[w2.heap.size]? = some (.cells #[.int .u64 qa, .int .u64 qb] 295 (0, 0)) := by rw [hW3]; exact heap_alloc_new _ _
           clear hW3
           refine (CA.out W3).mono ?_
           rintro e w4 ⟨rfl, hb4⟩
           have HX4 := Lib.hid (box_below (w := w) hx3 hb4)
           obtain ⟨e1, e2, e3⟩ := box_cells (Below.refl _ _) HX4.out
           have HB4 := Lib.hid (bthen HB2.out (bthen hb3 hb4))
           have HS4 := Lib.hid (show w.heap.size ≤ w2.heap.size from HB2.out.size)
           clear hb3 hx3 hb4)
        | (go_at_call 222
           refine (CS.out _).mono ?_
           rintro e w5 ⟨rfl, hb5⟩
           have HB5 := Lib.hid (bthen ((HB4.out.setCell HS4.out _).setCell HS4.out _) hb5)
           clear hb5))
      go_ret
      exact ⟨rfl, HB5.out⟩
    · rw [← hr, if_neg hr0] at hmn
      have CS := Lib.hid (fun W => show Calls Tryz.prog 222 #[.agg #[.int .u64 qa, .int .u64 qb]] W fun e w' => e = .returned (.int .i64 m) ∧ Below W.heap.size W w' from by
        have h := wideSmall_any m hml W
        unfold twoV at h
        rw [hmn, ← hqa, ← hqb] at h
        rw [hmn]
        exact h)
      obtain rfl : r = 0 := by omega
      clear hv hi hne hp htl hml hmn htl2 hqa hqb hr hn hqle hr0 hm n
      go_enter Tryz.func179, Tryz.ntmps179
      go_wp2_with (first
        | (go_at_call 220
           refine CT.out.mono ?_
           rintro e w1 ⟨rfl, hb1⟩
           have HB1 := Lib.hid hb1
           clear hb1)
        | (go_at_call 219
           refine (CD.out w1).mono ?_
           rintro e w2 ⟨rfl, hb2⟩
           have HB2 := Lib.hid (bthen HB1.out hb2)
           clear hb2)
        | (go_at_call 222
           refine (CS.out _).mono ?_
           rintro e w5 ⟨rfl, hb5⟩
           have HB5 := Lib.hid (bthen (balloc HB2.out _) hb5)
           clear hb5))
      go_ret
      exact ⟨rfl, HB5.out⟩
end

section
set_option linter.unusedSimpArgs false
set_option linter.unusedVariables false
open Go.RowKit Go.Lib

set_option maxRecDepth 100000 in
set_option maxHeartbeats 2000000 in
theorem winOf_any (v : Value) (l : List Smp) (w : World) (hv : RowIn 2 smpC w v l) (hl : l.length ≤ 1000000) (hi : smpI l) :
    Calls Tryz.prog 134 #[v] w fun e w' => e = .returned (stV (statN (valsW l))) ∧ Below w.heap.size w w' := by
  have CV := Lib.hid (fun W (hW : Below w.heap.size w W) => winVals_any v l W (hv.below hW) hl)
  have hvi := vals_i64 hi
  have hvl : (valsW l).length ≤ 1000000 := by rw [vals_len]; exact hl
  have HLL := Lib.hid hvl
  have HVI := Lib.hid hvi
  have hl9 : (valsW l).length ≤ 9223372036854775807 := by omega
  clear hv hi hl hvi hvl
  generalize valsW l = n at *
  by_cases hne : n = []
  · subst hne
    have HST := Lib.hid (show statN [] = st0 from rfl)
    have q2 : (((([] : List Int).length : Nat) : Int) == 0) = true := rfl
    clear hl9
    go_enter Tryz.func134, Tryz.ntmps134
    go_wp2_with (first
      | (go_at_call 175
         refine calls_named ?_
         intro W1 hW1
         have hb1 : Below w.heap.size w W1 := by rw [hW1]; exact balloc (Below.refl _ _) _
         have hx1 : W1.heap[w.heap.size]? = some (.cells #[.int .i64 0, .int .i64 0, .int .i64 0, .int .i64 0, .int .i64 0] 60 (0, 0)) := by rw [hW1]; exact heap_alloc_new _ _
         clear hW1
         refine (CV.out W1 hb1).mono ?_
         rintro e w2 ⟨A, c, rfl, ho, hb2⟩
         have HX2 := Lib.hid (box_below (w := w) hx1 hb2)
         obtain ⟨e1, e2, e3⟩ := box_cells (Below.refl _ _) HX2.out
         have HB2 := Lib.hid (bthen hb1 hb2)
         clear hb1 hx1 ho hb2))
    have hz2 := setCell_block (i := 4) (v := .int .i64 0) (setCell_block (i := 3) (v := .int .i64 0) (setCell_block (i := 2) (v := .int .i64 0) (setCell_block (i := 1) (v := .int .i64 0) (setCell_block (i := 0) (v := .int .i64 0) HX2.out))))
    obtain ⟨f1, f2, f3⟩ := box_cells (Below.refl _ _) hz2
    refine bodyPost_ret (v := .agg #[.int .i64 0, .int .i64 0, .int .i64 0, .int .i64 0, .int .i64 0]) (by simp [results, Tryz.results134, go_sem, f1]) rfl ⟨by rw [HST.out]; rfl, ((((HB2.out.setCell (Nat.le_refl _) _).setCell (Nat.le_refl _) _).setCell (Nat.le_refl _) _).setCell (Nat.le_refl _) _).setCell (Nat.le_refl _) _⟩
  · have hp : 0 < n.length := List.length_pos_iff.2 hne
    have HST := Lib.hid (show statN n = ⟨n.length, sumE n 0, minL n, maxL n, meanN n⟩ by unfold statN; rw [if_neg hne])
    have q0 : ¬ (n.length : Int) = 0 := by omega
    have q1 : ((n.length : Int) == 0) = false := by simpa using hne
    have CS := Lib.hid (fun v W (h : RowIn 1 nmC W v n) => satSum_any v n W h HLL.out (fun m hm => by have := HVI.out m hm; unfold I64; omega))
    have CMi := Lib.hid (fun v W (h : RowIn 1 nmC W v n) => slMin_any v n W h HLL.out hne)
    have CMa := Lib.hid (fun v W (h : RowIn 1 nmC W v n) => slMax_any v n W h HLL.out hne)
    have CMe := Lib.hid (fun v W (h : RowIn 1 nmC W v n) => wideMean_any v n W h HLL.out HVI.out)
    generalize sumE n 0 = s1 at CS HST
    generalize minL n = s2 at CMi HST
    generalize maxL n = s3 at CMa HST
    generalize meanN n = s4 at CMe HST
    clear hne hp
    go_enter Tryz.func134, Tryz.ntmps134
    go_wp2_with (first
      | (go_at_call 175
         refine calls_named ?_
         intro W1 hW1
         have hb1 : Below w.heap.size w W1 := by rw [hW1]; exact balloc (Below.refl _ _) _
         have hx1 : W1.heap[w.heap.size]? = some (.cells #[.int .i64 0, .int .i64 0, .int .i64 0, .int .i64 0, .int .i64 0] 60 (0, 0)) := by rw [hW1]; exact heap_alloc_new _ _
         clear hW1
         refine (CV.out W1 hb1).mono ?_
         rintro e w2 ⟨A, c, rfl, ho, hb2⟩
         have HX2 := Lib.hid (box_below (w := w) hx1 hb2)
         obtain ⟨e1, e2, e3⟩ := box_cells (Below.refl _ _) HX2.out
         have HB2 := Lib.hid (bthen hb1 hb2)
         have HR2 := Lib.hid (ho.row eNm)
         clear hb1 hx1 ho hb2)
      | (go_at_call 176
         refine (CS.out _ w2 HR2.out).mono ?_
         rintro e w3 ⟨rfl, rfl⟩)
      | (go_at_call 177
         refine (CMi.out _ w2 HR2.out).mono ?_
         rintro e w3 ⟨rfl, rfl⟩)
      | (go_at_call 178
         refine (CMa.out _ w2 HR2.out).mono ?_
         rintro e w3 ⟨rfl, rfl⟩)
      | (go_at_call 179
         refine (CMe.out _ w2 HR2.out).mono ?_
         rintro e w3 ⟨rfl, hb3⟩
         have HX3 := Lib.hid (box_below (w := w) HX2.out hb3)
         obtain ⟨g1, g2, g3⟩ := box_cells (Below.refl _ _) HX3.out
         have HB3 := Lib.hid (bthen HB2.out hb3)
         clear hb3))
    have hz2 := setCell_block (i := 4) (v := .int .i64 s4) (setCell_block (i := 3) (v := .int .i64 s3) (setCell_block (i := 2) (v := .int .i64 s2) (setCell_block (i := 1) (v := .int .i64 s1) (setCell_block (i := 0) (v := .int .i64 n.length) HX3.out))))
    obtain ⟨f1, f2, f3⟩ := box_cells (Below.refl _ _) hz2
    refine bodyPost_ret (v := .agg #[.int .i64 n.length, .int .i64 s1, .int .i64 s2, .int .i64 s3, .int .i64 s4]) (by simp [results, Tryz.results134, go_sem, f1]) rfl ⟨by rw [HST.out]; rfl, ((((HB3.out.setCell (Nat.le_refl _) _).setCell (Nat.le_refl _) _).setCell (Nat.le_refl _) _).setCell (Nat.le_refl _) _).setCell (Nat.le_refl _) _⟩

set_option maxRecDepth 100000 in
set_option maxHeartbeats 2000000 in
theorem winAt_any (v : Value) (l : List Smp) (til wd : Int) (w : World) (hv : RowIn 2 smpC w v l) (hl : l.length ≤ 1000000) (hi : smpI l) (ht : I64 til) (hw : I64 wd) :
    Calls Tryz.prog 70 #[v, .int .i64 til, .int .i64 wd] w fun e w' => e = .returned (stV (statW l til wd)) ∧ Below w.heap.size w w' := by
  have CF := Lib.hid (fun W => winFrom_any til wd W ht hw)
  have CC := Lib.hid (fun W (hW : Below w.heap.size w W) => winCut_any v l (fromW til wd) til W (hv.below hW) hl)
  have COf := Lib.hid (fun v W (h : RowIn 2 smpC W v (winC l (fromW til wd) til)) => winOf_any v _ W h (Nat.le_trans (cut_len _ _ _) hl) (hi.cut _ _))
  unfold statW
  generalize winC l (fromW til wd) til = m at CC COf ⊢
  generalize fromW til wd = f at CF CC
  generalize statN (valsW m) = s at COf ⊢
  obtain ⟨s0, s1, s2, s3, s4⟩ := s
  unfold stV at COf ⊢
  simp only at COf ⊢
  clear hv hl hi ht hw
  go_enter Tryz.func70, Tryz.ntmps70
  go_wp2_with (first
    | (go_at_call 136
       refine calls_named ?_
       intro W1 hW1
       have HB1 := Lib.hid (show Below w.heap.size w W1 by rw [hW1]; exact balloc (Below.refl _ _) _)
       have HX1 := Lib.hid (show W1.heap[w.heap.size]? = some (.cells #[.int .i64 0, .int .i64 0, .int .i64 0, .int .i64 0, .int .i64 0] 60 (0, 0)) by rw [hW1]; exact heap_alloc_new _ _)
       clear hW1
       refine (CF.out W1).mono ?_
       rintro e w2 ⟨rfl, rfl⟩)
    | (go_at_call 135
       refine (CC.out W1 HB1.out).mono ?_
       rintro e w2 ⟨A, c, rfl, ho, hb2⟩
       have HX2 := Lib.hid (box_below (w := w) HX1.out hb2)
       have HB2 := Lib.hid (bthen HB1.out hb2)
       have HR2 := Lib.hid (ho.row eSmp)
       clear ho hb2)
    | (go_at_call 134
       refine (COf.out _ w2 HR2.out).mono ?_
       rintro e w3 ⟨rfl, hb3⟩
       have HX3 := Lib.hid (box_below (w := w) HX2.out hb3)
       obtain ⟨g1, g2, g3⟩ := box_cells (Below.refl _ _) HX3.out
       have HB3 := Lib.hid (bthen HB2.out hb3)
       clear hb3))
  have hz2 := setCell_block (i := 4) (v := .int .i64 s4) (setCell_block (i := 3) (v := .int .i64 s3) (setCell_block (i := 2) (v := .int .i64 s2) (setCell_block (i := 1) (v := .int .i64 s1) (setCell_block (i := 0) (v := .int .i64 s0) HX3.out))))
  obtain ⟨f1, f2, f3⟩ := box_cells (Below.refl _ _) hz2
  exact bodyPost_ret (v := .agg #[.int .i64 s0, .int .i64 s1, .int .i64 s2, .int .i64 s3, .int .i64 s4]) (by simp [results, Tryz.results70, go_sem, f1]) rfl ⟨rfl, ((((HB3.out.setCell (Nat.le_refl _) _).setCell (Nat.le_refl _) _).setCell (Nat.le_refl _) _).setCell (Nat.le_refl _) _).setCell (Nat.le_refl _) _⟩
end

section
set_option linter.unusedSimpArgs false
set_option linter.unusedVariables false
open Go.RowKit Go.Lib
end

section
set_option linter.unusedSimpArgs false
set_option linter.unusedVariables false
open Go.RowKit Go.Lib Go.Sort

/-- What a cut tells of a key. -/
def cutSt (l : List En) (nd : En → Nd) (til wd : Int) (k : Ky) : StD := match findE l k with | none => st0 | some n => statW (nd (k, n)).smp til wd
def SmpOk (l : List En) (nd : En → Nd) : Prop := ∀ x ∈ l, smpI (nd x).smp
set_option maxRecDepth 100000 in
set_option maxHeartbeats 4000000 in
theorem cutStat_any (C : Nat) (ep : Int) (l : List En) (nd : En → Nd) (rs rh : Nat) (k : Ky) (til wd : Int) (w : World) (h : CutIn w C ep l) (hr : Ris l) (hl : l.length ≤ 1000) (hn : NodesOf w l nd rs rh) (hs : SmpOk l nd) (hrs : rs ≤ 256) (ht : I64 til) (hw : I64 wd) :
    Calls Tryz.prog 20 #[.pointer (some ⟨C, 0, none⟩), .agg #[.int .u64 k.1, .int .u64 k.2], .int .i64 til, .int .i64 wd] w fun e w' => e = .returned (.tuple #[stV (cutSt l nd til wd k), .bool (findE l k).isSome]) ∧ Below w.heap.size w w' := by
  have CG := Lib.hid (fun W (hW : Below w.heap.size w W) => cutGet_any C ep l k W (h.below hW) hr hl)
  unfold cutSt
  cases hf : findE l k with
  | none =>
    have e0 : ptr (none : Option Nat) = .pointer none := rfl
    rw [hf, e0] at CG
    simp only [Option.isSome_none] at CG ⊢
    clear h hr hl hn hs hf e0
    go_enter Tryz.func20, Tryz.ntmps20
    go_wp2_with (first
      | (go_at_call 19
         refine calls_named ?_
         intro W1 hW1
         have hb1 : Below w.heap.size w W1 := by rw [hW1]; exact balloc (balloc (Below.refl _ _) _) _
         have hx1 : W1.heap[w.heap.size + 1]? = some (.cells #[.int .i64 0, .int .i64 0, .int .i64 0, .int .i64 0, .int .i64 0] 60 (0, 0)) := by rw [hW1]; exact box_new _ _ _
         clear hW1
         refine (CG.out W1 hb1).mono ?_
         rintro e w2 ⟨rfl, hb2⟩
         have HX2 := Lib.hid (box_below (w := w) hx1 hb2)
         obtain ⟨e1, e2, e3⟩ := box_cells (Below.refl _ _) HX2.out
         have HB2 := Lib.hid (bthen hb1 hb2)
         clear hb1 hx1 hb2))
    have hz2 := setCell_block (i := 4) (v := .int .i64 0) (setCell_block (i := 3) (v := .int .i64 0) (setCell_block (i := 2) (v := .int .i64 0) (setCell_block (i := 1) (v := .int .i64 0) (setCell_block (i := 0) (v := .int .i64 0) HX2.out))))
    obtain ⟨f1, f2, f3⟩ := box_cells (Below.refl _ _) hz2
    refine bodyPost_ret (v := .tuple #[.agg #[.int .i64 0, .int .i64 0, .int .i64 0, .int .i64 0, .int .i64 0], .bool false]) (by simp [results, Tryz.results20, go_sem, f1]) rfl ⟨rfl, ?_⟩
    exact ((((HB2.out.setCell (by simp) _).setCell (by simp) _).setCell (by simp) _).setCell (by simp) _).setCell (by simp) _
  | some n =>
    have e0 : ptr (some n) = .pointer (some ⟨n, 0, none⟩) := rfl
    rw [hf, e0] at CG
    simp only [Option.isSome_some] at CG ⊢
    have hm := findE_mem hf
    obtain ⟨fp, hnd⟩ := hn _ hm
    have hsm := hs _ hm
    have CSm := Lib.hid (fun W (hW : Below w.heap.size w W) => nodeSamples_any n (nd (k, n)) rs rh fp W (hnd.below hW) hrs)
    have hlen : (nd (k, n)).smp.length ≤ 1000000 := by have := hnd.ok.len; omega
    generalize (nd (k, n)).smp = sm at hsm CSm hlen ⊢
    have CAt := Lib.hid (fun v W (hv : RowIn 2 smpC W v sm) => winAt_any v sm til wd W hv hlen hsm ht hw)
    generalize statW sm til wd = s at CAt ⊢
    obtain ⟨s0, s1, s2, s3, s4⟩ := s
    unfold stV at CAt ⊢
    simp only at CAt ⊢
    clear h hr hl hn hs hf e0 hm hnd hsm hlen
    go_enter Tryz.func20, Tryz.ntmps20
    go_wp2_with (first
      | (go_at_call 19
         refine calls_named ?_
         intro W1 hW1
         have hb1 : Below w.heap.size w W1 := by rw [hW1]; exact balloc (balloc (Below.refl _ _) _) _
         have hx1 : W1.heap[w.heap.size + 1]? = some (.cells #[.int .i64 0, .int .i64 0, .int .i64 0, .int .i64 0, .int .i64 0] 60 (0, 0)) := by rw [hW1]; exact box_new _ _ _
         clear hW1
         refine (CG.out W1 hb1).mono ?_
         rintro e w2 ⟨rfl, hb2⟩
         have HX2 := Lib.hid (box_below (w := w) hx1 hb2)
         have HB2 := Lib.hid (bthen hb1 hb2)
         clear hb1 hx1 hb2)
      | (go_at_call 71
         refine (CSm.out w2 HB2.out).mono ?_
         rintro e w3 ⟨A, c, f, rfl, hr, _, hb3⟩
         have HR3 := Lib.hid (hr.row eSmp)
         have HX3 := Lib.hid (box_below (w := w) HX2.out hb3)
         have HB3 := Lib.hid (bthen HB2.out hb3)
         clear hr hb3)
      | (go_at_call 70
         refine (CAt.out _ w3 HR3.out).mono ?_
         rintro e w4 ⟨rfl, hb4⟩
         have HX4 := Lib.hid (box_below (w := w) HX3.out hb4)
         obtain ⟨e1, e2, e3⟩ := box_cells (Below.refl _ _) HX4.out
         have HB4 := Lib.hid (bthen HB3.out hb4)
         clear hb4))
    have hz2 := setCell_block (i := 4) (v := .int .i64 s4) (setCell_block (i := 3) (v := .int .i64 s3) (setCell_block (i := 2) (v := .int .i64 s2) (setCell_block (i := 1) (v := .int .i64 s1) (setCell_block (i := 0) (v := .int .i64 s0) HX4.out))))
    obtain ⟨f1, f2, f3⟩ := box_cells (Below.refl _ _) hz2
    refine bodyPost_ret (v := .tuple #[.agg #[.int .i64 s0, .int .i64 s1, .int .i64 s2, .int .i64 s3, .int .i64 s4], .bool true]) (by simp [results, Tryz.results20, go_sem, f1]) rfl ⟨rfl, ?_⟩
    exact ((((HB4.out.setCell (by simp) _).setCell (by simp) _).setCell (by simp) _).setCell (by simp) _).setCell (by simp) _
end

section
set_option linter.unusedSimpArgs false
set_option linter.unusedVariables false
open Go.RowKit Go.Lib Go.Sort
end

section
set_option linter.unusedSimpArgs false
set_option linter.unusedVariables false
open Go.RowKit Go.Lib Go.Sort

def AllI (S : List (KO × Nd)) : Prop := ∀ p ∈ S, smpI p.2.smp
theorem putS_sub {l : List Smp} {room : Int} {x y : Smp} (h : y ∈ putS l room x) : y = x ∨ y ∈ l := by
  unfold putS at h
  split at h
  · rcases List.mem_or_eq_of_mem_set h with h | h
    · exact Or.inr h
    · exact Or.inl h
  · have h1 : y ∈ insS l x := by
      unfold cutS at h
      split at h
      · exact List.mem_of_mem_drop h
      · exact h
    unfold insS at h1
    rw [List.mem_append, List.mem_cons] at h1
    rcases h1 with h1 | h1 | h1
    · exact Or.inr (List.mem_of_mem_take h1)
    · exact Or.inl h1
    · exact Or.inr (List.mem_of_mem_drop h1)
theorem trimN_sub {cut : Int} {x : Nd} {y : Smp} (h : y ∈ (trimN cut x).smp) : y ∈ x.smp := by
  unfold trimN at h
  split at h
  · exact h
  · exact List.mem_of_mem_drop h
theorem ndOf_all {S : List (KO × Nd)} (h : AllI S) (k : KO) : smpI (ndOf S k).smp := by
  unfold ndOf
  cases hf : findM S k with
  | none => intro s hs; simp [nd0] at hs
  | some x => exact h _ (find_mem hf)
theorem putM_all {S : List (KO × Nd)} (h : AllI S) {k : KO} {x : Nd} (hx : smpI x.smp) : AllI (putM S k x) := fun p hp => by
  rcases mem_putM hp with rfl | ⟨h1, _⟩
  · exact hx
  · exact h p h1
theorem doS_all {c : Cfg} {rs rh ver : Nat} {S : List (KO × Nd)} {k : KO} {a : Act17} (h : AllI S) (ha : I64 a.smp.1 ∧ I64 a.smp.2) : AllI (doS c rs rh ver S k a).has := by
  unfold doS
  split
  · split
    · split
      · exact h
      · refine putM_all h (fun s hs => ?_)
        rcases putS_sub hs with rfl | hs
        · exact ha
        · exact ndOf_all h k s hs
    · exact h
  · split
    · intro p hp
      simp only [trimK] at hp
      obtain ⟨q, hq, rfl⟩ := List.mem_map.1 hp
      simp only
      split
      · intro s hs
        exact h q hq s (trimN_sub hs)
      · exact h q hq
    · split
      · split
        · split
          · exact h
          · exact putM_all h (ndOf_all h k)
        · exact h
      · split
        · split
          · exact putM_all h (ndOf_all h k)
          · exact h
        · intro p hp
          obtain ⟨q, hq, rfl⟩ := List.mem_map.1 hp
          simp only
          split
          · exact h q hq
          · exact h q hq
theorem play_cdoR {w0 W : World} {T M : Nat} {c : Cfg} {rs rh n ver : Nat} {es : List (KO × NE)} {v : Value} {l : List It} (h : Play w0 W T M c rs rh n ver es v l) (hc : CfgOk c rs rh) (hn : n ≤ 100) (k : KO) (a : Act17) :
    ∃ R : DoR, R = doS c rs rh ver (ab es) k a ∧ Calls Tryz.prog 17 #[.pointer (some ⟨T, 0, none⟩), .agg (act18C k.1 a).toArray] W fun e w1 => ∃ es2, e = .returned (.tuple #[]) ∧ Half w0 w1 T M c rs rh n ver k a R es2 v l ∧ Upd W w1 (sfp T M es) (sfp T M es2) := by
  have hr := hc.room
  refine ⟨doS c rs rh ver (ab es) k a, rfl, (cdo_all T M c ver es rs rh k a W h.at_ (sok_of (W := W) (T := T) (M := M) h.grown h.ver_ hc hn) (smp_small h.at_ hr.r2)).mono ?_⟩
  rintro e w1 ⟨es2, he, h1, h2, hu, ho⟩
  exact ⟨es2, he, half_of h hn hu ho h1 h2, hu⟩

set_option maxRecDepth 100000 in
set_option maxHeartbeats 8000000 in
theorem made_19I (c : Cfg) (rs rh : Nat) (v : Value) (l : List ActK) (w : World) (hv : RowIn 16 actKC w v l) (hok : ∀ p ∈ l, p.1.ok) (hl : l.length ≤ 30) (hI : ∀ p ∈ l, I64 p.2.smp.1 ∧ I64 p.2.smp.2) (hc : CfgOk c rs rh) :
    Calls Tryz.prog 12 #[.agg #[.int .i64 c.st, .int .i64 c.sa, .int .i64 c.lo, .int .i64 c.hi], v] w fun e w' => ∃ T M ver es m A cc, e = .returned (.tuple #[.pointer (some ⟨T, 0, none⟩), .slice A m.length cc]) ∧ Play w w' T M c rs rh l.length ver es (.slice A m.length cc) m ∧ AllI (ab es) := by
  obtain ⟨A, cc, rfl⟩ := hv.form
  have HC := Lib.hid hc
  have HV := Lib.hid hv
  have HOK := Lib.hid hok
  have HL := Lib.hid hl
  have HII := Lib.hid hI
  have hR := hc.room
  have h0 : 0 ≤ c.lo := by have := hc.cfg; unfold cfgB at this; simp only [Bool.and_eq_true, decide_eq_true_eq] at this; omega
  have HR := Lib.hid hR
  have H0 := Lib.hid h0
  have HNW : Hid (∀ W, Calls Tryz.prog 49 #[.agg #[.int .i64 c.st, .int .i64 c.sa, .int .i64 c.lo, .int .i64 c.hi]] W (NewStripe W c rs rh)) := Lib.hid (fun W => stripeNew_any c rs rh W hc.cfg hc.ok)
  have hl' : l.length ≤ 9223372036854775807 := by omega
  clear hv hok hl hc hR h0 hI
  go_enter Tryz.func12, Tryz.ntmps12
  go_wp2_with (first
    | (go_at_call 49
       refine calls_named ?_
       intro W0 hW0
       have hb0 : Below w.heap.size w W0 := by rw [hW0]; exact balloc (Below.refl _ _) _
       have hxc : W0.heap[w.heap.size]? = some (.cells #[.int .i64 c.st, .int .i64 c.sa, .int .i64 c.lo, .int .i64 c.hi] 23 (0, 0)) := by rw [hW0]; exact heap_alloc_new _ _
       clear hW0
       refine (HNW.out W0).mono ?_
       intro e w3 hn
       obtain ⟨T, M, rfl, hp⟩ := play_new (Below.refl _ _) hn H0.out
       have HXC := Lib.hid hxc
       have HB0 := Lib.hid hb0
       have HP3 := Lib.hid hp
       clear hn hp hxc hb0))
  go_loopg [7, 14] l.length (fun g s7 s14 wr => ∃ (n ver : Nat) (es : List (KO × NE)) (m : List It), n ≤ l.length ∧ l.length - n ≤ g ∧ s14 = .int .i64 n ∧ Play W0 wr T M c rs rh n ver es s7 m ∧ AllI (ab es))
  case atStart => exact ⟨0, 0, [], [], Nat.zero_le _, Nat.le_refl _, rfl, HP3.out, fun p hp => by cases hp⟩
  case round =>
    obtain ⟨n, ver, es, m, hn, hg, rfl, hp, hall⟩ := hrel
    have HALL := Lib.hid hall
    clear hall
    have hbw : Below w.heap.size w wr := HB0.out.trans (hp.base.mono HB0.out.size)
    obtain ⟨Am, cm, rfl⟩ := hp.items.1.1.form
    have HP := Lib.hid hp
    clear hp
    by_cases hlt : n < l.length
    · as_aux_lemma =>
      obtain ⟨b, o, rfl, hbl, hat⟩ := (HV.out.below hbw).at_ hlt
      have hxok := HOK.out _ (List.getElem_mem hlt)
      have HXI := Lib.hid (HII.out _ (List.getElem_mem hlt))
      generalize l[n] = x at hat hxok HXI
      obtain ⟨ky, a⟩ := x
      obtain ⟨ko, rfl⟩ : ∃ ko : KO, ko.1 = ky := ⟨⟨ky, hxok⟩, rfl⟩
      have c0 := hat 0 _ rfl
      have c1 := hat 1 _ rfl
      have c2 := hat 2 _ rfl
      have c3 := hat 3 _ rfl
      have c4 := hat 4 _ rfl
      have c5 := hat 5 _ rfl
      have c6 := hat 6 _ rfl
      have c7 := hat 7 _ rfl
      have c8 := hat 8 _ rfl
      have c9 := hat 9 _ rfl
      have c10 := hat 10 _ rfl
      have c11 := hat 11 _ rfl
      have c12 := hat 12 _ rfl
      have c13 := hat 13 _ rfl
      have c14 := hat 14 _ rfl
      have c15 := hat 15 _ rfl
      rw [Nat.add_zero] at c0
      simp only at c0 c1 c2 c3 c4 c5 c6 c7 c8 c9 c10 c11 c12 c13 c14 c15 hxok
      have HBW := Lib.hid hbw
      have hn1 : (n : Int) < (l.length : Int) := by omega
      have hn0 : (0 : Int) ≤ (n : Int) := by omega
      clear hat hbw hxok
      go_wp2_with (first
        | (go_at_call 17
           refine calls_named ?_
           intro W4 hW4
           have hb4 : Below wr.heap.size wr W4 := by rw [hW4]; exact balloc (Below.refl _ _) _
           have hx4 : W4.heap[wr.heap.size]? = some (.cells #[.int .u64 ko.1.1, .int .u64 ko.1.2, .int .i64 a.kind, .int .i64 a.smp.1, .int .i64 a.smp.2, .int .i64 a.pol.mn, .int .i64 a.pol.mx, .int .i64 a.pol.tg, .int .i64 a.pol.tol, .int .i64 a.pol.win, .int .i64 a.pol.hold, .int .i64 a.adv.tick, .int .i64 a.adv.load, .int .i64 a.adv.want, .int .i64 a.adv.repl, .int .i64 a.adv.why] 50 (0, 0)) := by rw [hW4]; exact heap_alloc_new _ _
           clear hW4
           have hnew : wr.heap.size ∉ sfp T M es := fun hq => by have := HP.out.at_.sfpLt _ hq; omega
           obtain ⟨R, hRe, hdo⟩ := play_cdoR (HP.out.below hb4) HC.out (by have := HL.out; omega) ko a
           refine hdo.mono ?_
           rintro e w5 ⟨es2, rfl, hh, hu⟩
           have hx5 := (hu.block _ (Array.getElem?_eq_some_iff.1 hx4).1 hnew).trans hx4
           obtain ⟨a3, a3f, a3l⟩ := box_cells (Below.refl _ _) hx5
           obtain ⟨a4, a4f, a4l⟩ := box_cells hh.base HXC.out
           have HH := Lib.hid hh
           have HRE := Lib.hid hRe
           clear hb4 hx4 hnew hdo hh hu hx5 hRe)
        | (go_at_call 50
           refine (half_do18 HH.out HC.out (by have := HL.out; omega)).mono ?_
           rintro e w6 ⟨out, A6, c6', rfl, hp6, hb6⟩
           have HP6 := Lib.hid hp6
           clear hp6 hb6))
      go_roundg (l.length - (n + 1))
      case measure => omega
      case rel => exact ⟨n + 1, R.ver, es2, out, hlt, Nat.le_refl _, by go_num, HP6.out, by rw [HH.out.has, HRE.out]; exact doS_all HALL.out HXI.out⟩
    · obtain rfl : n = l.length := by omega
      clear hbw hg hn hlt
      go_wp2_with fail
      go_ret2
      exact ⟨T, M, ver, es, m, Am, cm, rfl, HP.out.from_ HB0.out, HALL.out⟩
end

section
set_option linter.unusedSimpArgs false
set_option linter.unusedVariables false
open Go.RowKit Go.Lib Go.Sort

set_option maxRecDepth 100000 in
set_option maxHeartbeats 2000000 in
theorem cutGet_nil (k : Ky) (w : World) :
    Calls Tryz.prog 19 #[.pointer none, .agg #[.int .u64 k.1, .int .u64 k.2]] w fun e w' => e = .returned (.tuple #[.pointer none, .bool false]) ∧ Below w.heap.size w w' := by
  go_enter Tryz.func19, Tryz.ntmps19
  go_wp2_with fail
  go_ret2
  exact ⟨rfl, balloc (Below.refl _ _) _⟩
set_option maxRecDepth 100000 in
set_option maxHeartbeats 2000000 in
theorem cutEpoch_nil (w : World) :
    Calls Tryz.prog 15 #[.pointer none] w fun e w' => e = .returned (.int .i64 0) ∧ Below w.heap.size w w' := by
  go_enter Tryz.func15, Tryz.ntmps15
  go_wp2_with fail
  go_ret
  exact ⟨rfl, Below.refl _ _⟩
set_option maxRecDepth 100000 in
set_option maxHeartbeats 2000000 in
theorem cutKeys_nil (w : World) :
    Calls Tryz.prog 24 #[.pointer none] w fun e w' => e = .returned (.slice none 0 0) ∧ Below w.heap.size w w' := by
  go_enter Tryz.func24, Tryz.ntmps24
  go_wp2_with fail
  go_ret
  exact ⟨rfl, Below.refl _ _⟩
set_option maxRecDepth 100000 in
set_option maxHeartbeats 4000000 in
theorem cutTotal_nil (a b : Int) (w : World) :
    Calls Tryz.prog 25 #[.pointer none, .int .i64 a, .int .i64 b] w fun e w' => e = .returned (.agg #[.int .i64 0, .int .i64 0, .int .i64 0, .int .i64 0, .int .i64 0]) ∧ Below w.heap.size w w' := by
  go_enter Tryz.func25, Tryz.ntmps25
  go_wp2_with (first
    | (go_at_call 24
       refine calls_named ?_
       intro W1 hW1
       have hb1 : Below w.heap.size w W1 := by rw [hW1]; exact balloc (balloc (Below.refl _ _) _) _
       have hx1 : W1.heap[w.heap.size]? = some (.cells #[.int .i64 0, .int .i64 0, .int .i64 0, .int .i64 0, .int .i64 0] 60 (0, 0)) := by rw [hW1]; exact box_old _ _ _
       have hx2 : W1.heap[w.heap.size + 1]? = some (.cells #[.int .i64 0, .int .i64 0, .int .i64 0, .int .i64 0, .int .i64 0] 60 (0, 0)) := by rw [hW1]; exact box_new _ _ _
       clear hW1
       refine (cutKeys_nil W1).mono ?_
       rintro e w2 ⟨rfl, hb2⟩
       have HX1 := Lib.hid (box_below (w := w) hx1 hb2)
       have HX2 := Lib.hid (box_below (w := w) hx2 hb2)
       have HB2 := Lib.hid (bthen hb1 hb2)
       clear hb1 hx1 hx2 hb2))
  obtain ⟨a1, a2, a3⟩ := box_cells (Below.refl _ _) HX1.out
  obtain ⟨a4, a5, a6⟩ := box_cells (Below.refl _ _) HX2.out
  go_loopg [15] 0 (fun g s15 wr => s15 = .int .i64 0 ∧ wr = w2)
  case atStart => exact ⟨rfl, rfl⟩
  case round =>
    obtain ⟨rfl, rfl⟩ := hrel
    go_wp2_with fail
    have hz2 := setCell_block (i := 4) (v := .int .i64 0) (setCell_block (i := 3) (v := .int .i64 0) (setCell_block (i := 2) (v := .int .i64 0) (setCell_block (i := 1) (v := .int .i64 0) (setCell_block (i := 0) (v := .int .i64 0) HX1.out))))
    obtain ⟨f1, f2, f3⟩ := box_cells (Below.refl _ _) hz2
    exact bodyPost_ret (v := .agg #[.int .i64 0, .int .i64 0, .int .i64 0, .int .i64 0, .int .i64 0]) (by simp [results, Tryz.results25, go_sem, f1]) rfl ⟨rfl, ((((HB2.out.setCell (Nat.le_refl _) _).setCell (Nat.le_refl _) _).setCell (Nat.le_refl _) _).setCell (Nat.le_refl _) _).setCell (Nat.le_refl _) _⟩

theorem smpOk_fr {es : List (KO × NE)} (h : AllI (ab es)) (l : List En) : SmpOk l (ndF es) := fun x _ => by
  unfold ndF
  cases hf : es.find? (fun p => decide (p.1.1 = x.1)) with
  | none => intro s hs; simp [nd0] at hs
  | some p =>
    have hm := List.mem_of_find?_eq_some hf
    have := h (p.1, p.2.2.1) (List.mem_map.2 ⟨p, hm, rfl⟩)
    simpa [frz] using this
theorem kept_all {fz : Nat → Bool} {l : List En} (h : ∀ x ∈ l, fz x.2 = true) : keptE fz (soE l) = l := by
  induction l with
  | nil => rfl
  | cons x m ih =>
    have h1 := h x (by simp)
    simp only [soE, List.map_cons, keptE, h1, if_true] at ih ⊢
    rw [ih (fun y hy => h y (by simp [hy]))]
theorem cut_mix (ep : Int) (A : Option Addr) (c : Nat) (fl : List En) (w : World) (T1 T2 : TypeId) (k : Ky) (N : Nat) (hr : RowIn 3 enC w (.slice A fl.length c) fl) (hf : ∀ x ∈ fl, FzN w x.2 true) (hN : FzN w N false) (hne : ∀ x ∈ fl, x.2 ≠ N) (hl : fl.length ≤ 40) :
    Calls Tryz.prog 13 #[.int .i64 ep, .slice (some ⟨w.heap.size + 1, 0, none⟩) 2 2] ((w.alloc (.cells #[.int .u64 k.1, .int .u64 k.2, .pointer (some ⟨N, 0, none⟩), .int .u64 k.1, .int .u64 k.2, .pointer none] T1)).alloc (.cells #[.slice A fl.length c, .slice (some ⟨w.heap.size, 0, none⟩) 2 2] T2)) fun e w' => ∃ C, e = .returned (.pointer (some ⟨C, 0, none⟩)) ∧ CutAt w.heap.size w' C ep (sortEn fl) ∧ Below w.heap.size w w' := by
  obtain ⟨W1, hW1⟩ : ∃ W1, W1 = w.alloc (.cells #[.int .u64 k.1, .int .u64 k.2, .pointer (some ⟨N, 0, none⟩), .int .u64 k.1, .int .u64 k.2, .pointer none] T1) := ⟨_, rfl⟩
  have hs1 : W1.heap.size = w.heap.size + 1 := by rw [hW1]; simp
  have hb1 : Below w.heap.size w W1 := by rw [hW1]; exact balloc (Below.refl _ _) _
  have hr1 : RowIn 3 eoC W1 (.slice (some ⟨w.heap.size, 0, none⟩) 2 2) [(k, some N), (k, none)] := by
    rw [hW1]
    exact RowIn.lit2 w (k, some N) (k, none) _ _ w.heap.size rfl (fun _ => rfl) rfl
  rw [← hW1]
  have hb2 : Below W1.heap.size W1 (W1.alloc (.cells #[.slice A fl.length c, .slice (some ⟨w.heap.size, 0, none⟩) 2 2] T2)) := balloc (Below.refl _ _) _
  have hbb := bthen hb1 hb2
  obtain ⟨fz, hfz⟩ : ∃ fz : Nat → Bool, fz = fun n => decide (n ≠ N) := ⟨_, rfl⟩
  have hfl : ∀ x ∈ fl, fz x.2 = true := fun x hx => by rw [hfz]; simpa using hne x hx
  have hfN : fz N = false := by rw [hfz]; simp
  have e1 : ([(A, c, soE fl), (some ⟨w.heap.size, 0, none⟩, 2, [(k, some N), (k, none)])] : List PartE).flatMap (fun p => keptE fz p.2.2) = fl := by
    simp [kept_all hfl, keptE, hfN]
  have hc := cutNew_any ep (.slice (some ⟨w.heap.size + 1, 0, none⟩) 2 2) [(A, c, soE fl), (some ⟨w.heap.size, 0, none⟩, 2, [(k, some N), (k, none)])] fz (W1.alloc (.cells #[.slice A fl.length c, .slice (some ⟨w.heap.size, 0, none⟩) 2 2] T2))
    ⟨by
      have := RowIn.lit2 (f := partC) W1 (A, c, soE fl) (some ⟨w.heap.size, 0, none⟩, 2, [(k, some N), (k, none)]) #[.slice A fl.length c, .slice (some ⟨w.heap.size, 0, none⟩) 2 2] T2 W1.heap.size rfl (fun _ => rfl) (by simp [partC, soE_len])
      rw [hs1] at this
      exact this, fun p hp => by
      rcases List.mem_cons.1 hp with rfl | hp
      · have := (row_so hr).below hbb
        simp only [soE_len]
        exact this
      · obtain rfl := List.mem_singleton.1 hp
        exact hr1.below hb2⟩
    (fun p hp x hx n hn => by
      rcases List.mem_cons.1 hp with rfl | hp
      · obtain ⟨y, hy, rfl⟩ := List.mem_map.1 hx
        simp at hn
        subst hn
        rw [hfl y hy]
        exact (hf y hy).below hbb
      · obtain rfl := List.mem_singleton.1 hp
        simp at hx
        rcases hx with rfl | rfl
        · simp at hn
          subst hn
          rw [hfN]
          exact hN.below hbb
        · simp at hn)
    (by rw [e1]; exact hl) (by simp) (fun p hp => by
      rcases List.mem_cons.1 hp with rfl | hp
      · simp only [soE_len]; omega
      · obtain rfl := List.mem_singleton.1 hp
        simp)
  refine hc.mono ?_
  rintro e w' ⟨C, he, h1, h2⟩
  rw [e1] at h1
  exact ⟨C, he, h1.lower hbb.size, bthen hbb h2⟩
end

section
set_option linter.unusedSimpArgs false
set_option linter.unusedVariables false
open Go.RowKit Go.Lib Go.Sort

/-- Two stripes behind acts, and cuts of both as they were frozen. -/
def TwoCuts (w W : World) (rs rh : Nat) (C1 C2 : Nat) (es1 es2 : List (KO × NE)) (v1 v2 : Value) (l1 l2 : List It) : Prop :=
  ∃ B1 B2, CutAt B1 W C1 1 (sortEn (frL es1 l1)) ∧ CutAt B2 W C2 2 (sortEn (frL es2 l2)) ∧ FzAt (fun _ => True) W es1 rs rh v1 l1 ∧ FzAt (fun _ => True) W es2 rs rh v2 l2 ∧ Below w.heap.size w W
theorem TwoCuts.below {w W W' : World} {rs rh C1 C2 : Nat} {es1 es2 : List (KO × NE)} {v1 v2 : Value} {l1 l2 : List It} (h : TwoCuts w W rs rh C1 C2 es1 es2 v1 v2 l1 l2) (hb : Below W.heap.size W W') : TwoCuts w W' rs rh C1 C2 es1 es2 v1 v2 l1 l2 := by
  obtain ⟨B1, B2, a, b, c, d, e⟩ := h
  exact ⟨B1, B2, a.below hb, b.below hb, c.below hb, d.below hb, e.trans (hb.mono e.size)⟩
end

section
set_option linter.unusedSimpArgs false
set_option linter.unusedVariables false
open Go.RowKit Go.Lib Go.Sort

set_option maxRecDepth 100000 in
set_option maxHeartbeats 8000000 in
theorem has19_core (N : Nat) (y : Nd) (rs rh : Nat) (fp : List Nat) (sA pA : Option Addr) (sc pc : Nat) (ver : Int) (w : World) (hn : NodeIn w N y rs rh fp) (hrs : rs ≤ 256) (hrh : rh ≤ 64)
    (h1 : RowIn 2 smpC w (.slice sA y.smp.length sc) y.smp) (h2 : RowIn 5 advC w (.slice pA y.past.length pc) y.past) :
    Calls Tryz.prog 22 #[.pointer (some ⟨N, 0, none⟩), .agg #[.slice sA y.smp.length sc, .slice pA y.past.length pc, .int .i64 y.pol.mn, .int .i64 y.pol.mx, .int .i64 y.pol.tg, .int .i64 y.pol.tol, .int .i64 y.pol.win, .int .i64 y.pol.hold, .bool y.ruled, .int .i64 ver]] w fun e w' => e = .returned (.bool true) ∧ Below w.heap.size w w' := by
  have HN := Lib.hid hn
  have H1 := Lib.hid h1
  have H2 := Lib.hid h2
  have hl1 : y.smp.length ≤ 1000000 := by obtain ⟨_, _, _, _, _, _, _, _, _, _, _, _, h8⟩ := hn; omega
  have hl2 : y.past.length ≤ 1000000 := by obtain ⟨_, _, _, _, _, _, hh, _⟩ := hn; have := hh.len; omega
  have HL1 := Lib.hid hl1
  have HL2 := Lib.hid hl2
  clear hn h1 h2 hl1 hl2
  go_enter Tryz.func22, Tryz.ntmps22
  go_wp2_with (first
    | (go_at_call 73
       refine calls_named ?_
       intro W1 hW1
       have hb1 : Below w.heap.size w W1 := by rw [hW1]; exact balloc (Below.refl _ _) _
       have ho1 : W1.heap[w.heap.size]? = some (.cells #[.slice sA y.smp.length sc, .slice pA y.past.length pc, .int .i64 y.pol.mn, .int .i64 y.pol.mx, .int .i64 y.pol.tg, .int .i64 y.pol.tol, .int .i64 y.pol.win, .int .i64 y.pol.hold, .bool y.ruled, .int .i64 ver] 68 (0, 0)) := by rw [hW1]; exact heap_alloc_new _ _
       clear hW1
       refine (nodePolicy_any N y rs rh fp W1 (HN.out.below hb1)).mono ?_
       rintro e w2 ⟨rfl, hb2⟩
       have hO2 := (hb2.block _ (Array.getElem?_eq_some_iff.1 ho1).1).trans ho1
       have HO2 := Lib.hid hO2
       have HB2 := Lib.hid (bthen hb1 hb2)
       clear hb1 hb2 ho1 hO2))
  refine name_world ?_
  intro W hW
  have hb0 : Below w.heap.size w W := by rw [hW]; exact bthen HB2.out (balloc (Below.refl _ _) _)
  have hp : W.heap[w2.heap.size]? = some (.cells #[.int .i64 y.pol.mn, .int .i64 y.pol.mx, .int .i64 y.pol.tg, .int .i64 y.pol.tol, .int .i64 y.pol.win, .int .i64 y.pol.hold] 44 (0, 0)) := by rw [hW]; exact heap_alloc_new _ _
  have hx := ((show Below w2.heap.size w2 W by rw [hW]; exact balloc (Below.refl _ _) _).block _ (Array.getElem?_eq_some_iff.1 HO2.out).1).trans HO2.out
  clear hW
  have HW := Lib.hid hb0
  have HX := Lib.hid hx
  have HP := Lib.hid hp
  have rl : ∀ U, Below W.heap.size W U → (∀ j, U.cell? ⟨w.heap.size, j, none⟩ = (#[.slice sA y.smp.length sc, .slice pA y.past.length pc, .int .i64 y.pol.mn, .int .i64 y.pol.mx, .int .i64 y.pol.tg, .int .i64 y.pol.tol, .int .i64 y.pol.win, .int .i64 y.pol.hold, .bool y.ruled, .int .i64 ver] : Array Value)[j]?) := fun U hU => (box_cells hU HX.out).1
  have rp : ∀ U, Below W.heap.size W U → (∀ j, U.cell? ⟨w2.heap.size, j, none⟩ = (#[.int .i64 y.pol.mn, .int .i64 y.pol.mx, .int .i64 y.pol.tg, .int .i64 y.pol.tol, .int .i64 y.pol.win, .int .i64 y.pol.hold] : Array Value)[j]?) := fun U hU => (box_cells hU HP.out).1
  clear hb0 hx hp
  have hS00 : Below W.heap.size W W := Below.refl _ _
  have hS0 : Below W.heap.size W W.drew := hS00.drew
  go_region_held3 (fun U => Below W.heap.size W U)
    (first
      | with_reducible exact hS0
      | with_reducible exact HB7.out
      | with_reducible exact HB6.out
      | with_reducible exact HB5.out
      | with_reducible exact HB4.out)
    (first
      | (go_at_call 71
         refine (nodeSamples_any N y rs rh fp _ (HN.out.below (bthen HW.out ‹Below W.heap.size W _›)) hrs).mono ?_
         rintro e w4 ⟨A, c, fq, rfl, hq, hf, hb⟩
         have hb4 := bthen ‹Below W.heap.size W _› hb
         have HQ4 := Lib.hid (hq.row eSmp)
         have HB4 := Lib.hid hb4
         clear hq hf hb hb4)
      | (go_at_call 74
         refine calls_named ?_
         intro W5 hW5
         have hb5 : Below w4.heap.size w4 W5 := by rw [hW5]; repeat (first | exact Below.refl _ _ | refine Below.drew ?_)
         clear hW5
         refine (r8same_any _ _ y.smp W5 (HQ4.out.below hb5) (H1.out.below (bthen HW.out (bthen HB4.out hb5))) HL1.out).mono ?_
         rintro e w5 ⟨rfl, hb⟩
         have HB5 := Lib.hid (bthen HB4.out (bthen hb5 hb))
         clear hb5 hb)
      | (go_at_call 76
         refine (nodePast_any N y rs rh fp _ (HN.out.below (bthen HW.out ‹Below W.heap.size W _›)) hrh).mono ?_
         rintro e w6 ⟨A6, c6, fq6, rfl, hq, hf, hb⟩
         have hb4 := bthen ‹Below W.heap.size W _› hb
         have HQ6 := Lib.hid (hq.row eAdv)
         have HB6 := Lib.hid hb4
         clear hq hf hb hb4)
      | (go_at_call 75
         refine calls_named ?_
         intro W5 hW5
         have hb5 : Below w6.heap.size w6 W5 := by rw [hW5]; repeat (first | exact Below.refl _ _ | refine Below.drew ?_)
         clear hW5
         refine (r14same_any _ _ y.past W5 (HQ6.out.below hb5) (H2.out.below (bthen HW.out (bthen HB6.out hb5))) HL2.out).mono ?_
         rintro e w7 ⟨rfl, hb⟩
         have HB7 := Lib.hid (bthen HB6.out (bthen hb5 hb))
         clear hb5 hb))
  all_goals go_wp2
  all_goals go_ret
  all_goals exact ⟨rfl, bthen HW.out HB7.out⟩

theorem nhas19_any (P : Nat → Prop) (N : Nat) (y : Nd) (rs rh : Nat) (fp : List Nat) (x : It) (w : World) (hn : NodeIn w N y rs rh fp) (hrs : rs ≤ 256) (hrh : rh ≤ 64) (hx : LoadIn P w x) (hs : sameN y x.nd) :
    Calls Tryz.prog 22 #[.pointer (some ⟨N, 0, none⟩), .agg #[.slice x.sA x.nd.smp.length x.sc, .slice x.pA x.nd.past.length x.pc, .int .i64 x.nd.pol.mn, .int .i64 x.nd.pol.mx, .int .i64 x.nd.pol.tg, .int .i64 x.nd.pol.tol, .int .i64 x.nd.pol.win, .int .i64 x.nd.pol.hold, .bool x.nd.ruled, .int .i64 (x.nd.ver : Nat)]] w fun e w' => e = .returned (.bool true) ∧ Below w.heap.size w w' := by
  obtain ⟨h1, h2, h3, h4⟩ := hs
  have hx1 := hx.1.1
  have hx2 := hx.2.1
  rw [← h1] at hx1
  rw [← h2] at hx2
  rw [← h1, ← h2, ← h3, ← h4]
  exact has19_core N y rs rh fp _ _ _ _ _ w hn hrs hrh hx1 hx2
end

section
set_option linter.unusedSimpArgs false
set_option linter.unusedVariables false
open Go.RowKit Go.Lib Go.Sort

/-- The config's and the key's boxes. -/
def CfBox (B : Nat) (c : Cfg) (k : KO) (U : World) : Prop := U.heap[B]? = some (.cells #[.int .i64 c.st, .int .i64 c.sa, .int .i64 c.lo, .int .i64 c.hi] 23 (0, 0)) ∧ U.heap[B + 1]? = some (.cells #[.int .u64 k.1.1, .int .u64 k.1.2] 40 (0, 0))
theorem CfBox.below {B : Nat} {c : Cfg} {k : KO} {U U' : World} (h : CfBox B c k U) (hb : Below U.heap.size U U') : CfBox B c k U' := ⟨(hb.block _ (Array.getElem?_eq_some_iff.1 h.1).1).trans h.1, (hb.block _ (Array.getElem?_eq_some_iff.1 h.2).1).trans h.2⟩

set_option maxRecDepth 100000 in
set_option maxHeartbeats 8000000 in
theorem cfinds_main (c : Cfg) (rs rh : Nat) (v : Value) (l : List ActK) (k : KO) (til : Int) (w : World) (hv : RowIn 16 actKC w v l) (hok : ∀ p ∈ l, p.1.ok) (hI : ∀ p ∈ l, I64 p.2.smp.1 ∧ I64 p.2.smp.2) (hl : l.length ≤ 30) (hc : CfgOk c rs rh) (ht : I64 til) :
    Calls Tryz.prog 4 #[cfgV c, v, .agg #[.int .u64 k.1.1, .int .u64 k.1.2], .int .i64 til] w fun e w' => e = .returned (.bool true) ∧ Below w.heap.size w w' := by
  obtain ⟨A, cc, rfl⟩ := hv.form
  have HC := Lib.hid hc
  have HV := Lib.hid hv
  have HOK := Lib.hid hok
  have HII := Lib.hid hI
  have HL := Lib.hid hl
  have HT := Lib.hid ht
  have HR := Lib.hid hc.room
  have HRT : Hid (∀ W, Calls Tryz.prog 11 #[.agg #[.int .i64 c.st, .int .i64 c.sa, .int .i64 c.lo, .int .i64 c.hi]] W fun e w' => e = .returned (.bool true) ∧ Below W.heap.size W w') := Lib.hid (fun W => by have := ref17Right_any c W; rw [hc.cfg] at this; exact this)
  have q30 : ¬ (30 : Int) < (l.length : Int) := by omega
  unfold cfgV
  clear hv hok hI hl hc ht
  go_enter Tryz.func4, Tryz.ntmps4
  go_upto_region 6 with (first
    | (go_at_call 10
       refine calls_named ?_
       intro W0 hW0
       have hb0 : Below w.heap.size w W0 := by rw [hW0]; exact balloc (balloc (Below.refl _ _) _) _
       have hbx : CfBox w.heap.size c k W0 := by rw [hW0]; exact ⟨box_old _ _ _, box_new _ _ _⟩
       clear hW0
       refine (awake19_any W0).mono ?_
       rintro e w1 ⟨rfl, hb1⟩
       obtain ⟨a1, a1f, a1l⟩ := box_cells hb1 hbx.1
       have HBX1 := Lib.hid (hbx.below hb1)
       have HB1 := Lib.hid (bthen hb0 hb1)
       clear hb0 hbx hb1)
    | (go_at_call 11
       refine (HRT.out w1).mono ?_
       rintro e w2 ⟨rfl, hb2⟩
       obtain ⟨a2, a2f, a2l⟩ := box_cells hb2 HBX1.out.1
       have HBX2 := Lib.hid (HBX1.out.below hb2)
       have HB2 := Lib.hid (bthen HB1.out hb2)
       clear hb2)
    | (go_at_call 12
       refine (made_19I c rs rh _ l w2 (HV.out.below HB2.out) HOK.out HL.out HII.out HC.out).mono ?_
       rintro e w3 ⟨T, M, ver, es, m, Am, cm, rfl, hp, hall⟩
       have HPS := Lib.hid hp
       have HALL := Lib.hid hall
       have HBX3 := Lib.hid (HBX2.out.below hp.base)
       have HSZ := Lib.hid (show w.heap.size + 1 < w2.heap.size from (Array.getElem?_eq_some_iff.1 HBX2.out.2).1)
       have HB3 := Lib.hid (bthen HB2.out hp.base)
       clear hp hall))
  have HQ := Lib.hid (show (frL es m).length ≤ 40 by rw [frL_len]; have := HPS.out.len.2; have := HL.out; omega)
  refine wp_region_held_drew (S := (CfBox w.heap.size c k)) (by kernel_rfl) ?hS1 (fun hHeld => ?_)
  case hS1 => first | with_reducible exact HBX3.out | exact HBX3.out | with_reducible exact HBX5.out | with_reducible exact HBX6.out | exact (HBX6.out.below (balloc (Below.refl _ _) _)) | exact (HBX6.out.below (balloc (balloc (Below.refl _ _) _) _)) | with_reducible exact HBX8.out
  refine wpAnyH_take (i := 0) (v := ?v2) rfl (by kernel_rfl) (by kernel_rfl) (by kernel_rfl) (fun _ _ _ h => h) (Or.inl ⟨by rfl, ?hy2⟩) (by assumption) ?_
  case hy2 =>
    intro w' hSw
    (try dsimp only at hSw)
    go_simp
    try (with_reducible rfl)
  try simp only [Act.put, List.getElem_toArray, List.getElem_cons_succ, List.getElem_cons_zero, List.setIfInBounds_toArray, List.set_cons_zero, List.set_cons_succ]
  refine wpAnyH_take (i := 2) (v := ?v3) rfl (by kernel_rfl) (by kernel_rfl) (by kernel_rfl) (fun _ _ _ h => h) (Or.inl ⟨by rfl, ?hy3⟩) (by assumption) ?_
  case hy3 =>
    intro w' hSw
    (try dsimp only at hSw)
    have q1 := (box_cells (Below.refl _ _) hSw.2).1
    go_simp
    try (with_reducible rfl)
  try simp only [Act.put, List.getElem_toArray, List.getElem_cons_succ, List.getElem_cons_zero, List.setIfInBounds_toArray, List.set_cons_zero, List.set_cons_succ]
  refine wpAnyH_take (i := 3) (v := ?v4) rfl (by kernel_rfl) (by kernel_rfl) (by kernel_rfl) (fun _ _ _ h => h) (Or.inl ⟨by rfl, ?hy4⟩) (by assumption) ?_
  case hy4 =>
    intro w' hSw
    (try dsimp only at hSw)
    have q1 := (box_cells (Below.refl _ _) hSw.1).1
    go_simp
    try (with_reducible rfl)
  try simp only [Act.put, List.getElem_toArray, List.getElem_cons_succ, List.getElem_cons_zero, List.setIfInBounds_toArray, List.set_cons_zero, List.set_cons_succ]
  refine wpAnyH_take (i := 6) (v := ?v5) rfl (by kernel_rfl) (by kernel_rfl) (by kernel_rfl) (fun _ _ _ h => h) (Or.inl ⟨by rfl, ?hy5⟩) (by assumption) ?_
  case hy5 =>
    intro w' hSw
    (try dsimp only at hSw)
    have q1 := (box_cells (Below.refl _ _) hSw.2).1
    go_simp
    try (with_reducible rfl)
  try simp only [Act.put, List.getElem_toArray, List.getElem_cons_succ, List.getElem_cons_zero, List.setIfInBounds_toArray, List.set_cons_zero, List.set_cons_succ]
  refine wpAnyH_take (i := 7) (v := ?v6) rfl (by kernel_rfl) (by kernel_rfl) (by kernel_rfl) (fun _ _ _ h => h) (Or.inl ⟨by rfl, ?hy6⟩) (by assumption) ?_
  case hy6 =>
    intro w' hSw
    (try dsimp only at hSw)
    go_simp
    try (with_reducible rfl)
  try simp only [Act.put, List.getElem_toArray, List.getElem_cons_succ, List.getElem_cons_zero, List.setIfInBounds_toArray, List.set_cons_zero, List.set_cons_succ]
  refine wpAnyH_ready (rs := [1]) (by kernel_rfl) (by simp) ?_
  refine AllReadyH.cons rfl (fun K hK => ?_) AllReadyH.nil
  go_simp
  go_at_call 14
  refine calls_named ?_
  intro W5 hW5
  have hb5 : Below w3.heap.size w3 W5 := by rw [hW5]; first | exact Below.refl _ _ | exact (Below.refl _ _).drew
  have hz5 : W5.heap.size = w3.heap.size := by rw [hW5]; rfl
  clear hW5
  refine (play_freezeF (HPS.out.below hb5) (by have := HL.out; omega) w3.heap.size (fun p hp r hr => (HPS.out.at_.node p hp).lt r hr) ((HPS.out.items.lt.below hb5).imp (fun b hb => hb.2))).mono ?_
  rintro e w5 ⟨A5, c5, rfl, hown, hfz, -, -, hu⟩
  have hbx := HBX3.out.below hb5
  have HBX5 := Lib.hid (show CfBox w.heap.size c k w5 from ⟨(hu.block _ (Array.getElem?_eq_some_iff.1 hbx.1).1 (fun hm => by have := HPS.out.above _ hm; have := HSZ.out; omega)).trans hbx.1, (hu.block _ (Array.getElem?_eq_some_iff.1 hbx.2).1 (fun hm => by have := HPS.out.above _ hm; have := HSZ.out; omega)).trans hbx.2⟩)
  have HO5 := Lib.hid (hown.row eEn)
  have HFZ := Lib.hid (hfz.imp (S' := fun b => b < w3.heap.size) (fun b hb => hb.1))
  have HZ5 := Lib.hid (show w3.heap.size ≤ w5.heap.size from by rw [← hz5]; exact hu.size)
  have HB5 := Lib.hid ((bthen HB3.out hb5).trans (hu.below (B := w.heap.size) (by rw [hz5]; exact HB3.out.size) (fun r hr => Nat.le_trans HB2.out.size (HPS.out.above _ hr))))
  clear hown hfz hu hbx hb5 hz5
  try go_simp
  refine hK.out _ _ ?hS7 (fun hHeld2 => ?_)
  case hS7 => first | with_reducible exact HBX3.out | exact HBX3.out | with_reducible exact HBX5.out | with_reducible exact HBX6.out | exact (HBX6.out.below (balloc (Below.refl _ _) _)) | exact (HBX6.out.below (balloc (balloc (Below.refl _ _) _) _)) | with_reducible exact HBX8.out
  clear hK K hHeld
  have hHeld := hHeld2
  clear hHeld2
  try simp only [Act.put, List.getElem_toArray, List.getElem_cons_succ, List.getElem_cons_zero, List.setIfInBounds_toArray, List.set_cons_zero, List.set_cons_succ]
  refine wpAnyH_ready (rs := [4]) (by kernel_rfl) (by simp) ?_
  refine AllReadyH.cons rfl (fun K hK => ?_) AllReadyH.nil
  go_simp
  go_at_call 18
  refine (nodeNew_any c rs rh w5 HC.out.cfg HC.out.sa HC.out.hi HC.out.ok).mono ?_
  rintro e w6 ⟨N, fpN, rfl, hn, hfn, hb⟩
  have HBX6 := Lib.hid (HBX5.out.below hb)
  have HO6 := Lib.hid (HO5.out.below hb)
  have HFZ6 := Lib.hid (HFZ.out.below hb)
  have HFN := Lib.hid (show FzN w6 N false from ⟨_, _, _, _, hn, rfl⟩)
  have HNE := Lib.hid (show ∀ x ∈ frL es m, x.2 ≠ N from fun x hx he => by
    obtain ⟨fp, h1, _, h3⟩ := HFZ.out.1 x hx
    have h4 := h3 _ h1.mem
    have h5 := hfn _ hn.mem
    have h6 := HZ5.out
    omega)
  have HB6 := Lib.hid (bthen HB5.out hb)
  clear hn hfn hb
  try go_simp
  refine hK.out _ _ ?hS8 (fun hHeld2 => ?_)
  case hS8 => first | with_reducible exact HBX3.out | exact HBX3.out | with_reducible exact HBX5.out | with_reducible exact HBX6.out | exact (HBX6.out.below (balloc (Below.refl _ _) _)) | exact (HBX6.out.below (balloc (balloc (Below.refl _ _) _) _)) | with_reducible exact HBX8.out
  clear hK K hHeld
  have hHeld := hHeld2
  clear hHeld2
  try simp only [Act.put, List.getElem_toArray, List.getElem_cons_succ, List.getElem_cons_zero, List.setIfInBounds_toArray, List.set_cons_zero, List.set_cons_succ]
  refine wpAnyH_take (i := 5) (v := ?v9) rfl (by kernel_rfl) (by kernel_rfl) (by kernel_rfl) (fun _ _ _ h => h) (Or.inl ⟨by rfl, ?hy9⟩) (by assumption) ?_
  case hy9 =>
    intro w' hSw
    (try dsimp only at hSw)
    go_simp
    try (with_reducible rfl)
  try simp only [Act.put, List.getElem_toArray, List.getElem_cons_succ, List.getElem_cons_zero, List.setIfInBounds_toArray, List.set_cons_zero, List.set_cons_succ]
  refine wpAnyH_ready (rs := [8]) (by kernel_rfl) (by simp) ?_
  refine AllReadyH.cons rfl (fun K hK => ?_) AllReadyH.nil
  go_simp
  skip
  try go_simp
  refine hK.out _ _ ?hS10 (fun hHeld2 => ?_)
  case hS10 => first | with_reducible exact HBX3.out | exact HBX3.out | with_reducible exact HBX5.out | with_reducible exact HBX6.out | exact (HBX6.out.below (balloc (Below.refl _ _) _)) | exact (HBX6.out.below (balloc (balloc (Below.refl _ _) _) _)) | with_reducible exact HBX8.out
  clear hK K hHeld
  have hHeld := hHeld2
  clear hHeld2
  try simp only [Act.put, List.getElem_toArray, List.getElem_cons_succ, List.getElem_cons_zero, List.setIfInBounds_toArray, List.set_cons_zero, List.set_cons_succ]
  refine wpAnyH_ready (rs := [9]) (by kernel_rfl) (by simp) ?_
  refine AllReadyH.cons rfl (fun K hK => ?_) AllReadyH.nil
  go_simp
  skip
  try go_simp
  refine hK.out _ _ ?hS11 (fun hHeld2 => ?_)
  case hS11 => first | with_reducible exact HBX3.out | exact HBX3.out | with_reducible exact HBX5.out | with_reducible exact HBX6.out | exact (HBX6.out.below (balloc (Below.refl _ _) _)) | exact (HBX6.out.below (balloc (balloc (Below.refl _ _) _) _)) | with_reducible exact HBX8.out
  clear hK K hHeld
  have hHeld := hHeld2
  clear hHeld2
  try simp only [Act.put, List.getElem_toArray, List.getElem_cons_succ, List.getElem_cons_zero, List.setIfInBounds_toArray, List.set_cons_zero, List.set_cons_succ]
  refine wpAnyH_ready (rs := [10]) (by kernel_rfl) (by simp) ?_
  refine AllReadyH.cons rfl (fun K hK => ?_) AllReadyH.nil
  go_simp
  go_at_call 13
  refine (cut_mix 1 A5 c5 (frL es m) w6 _ _ k.1 N HO6.out HFZ6.out.fz HFN.out HNE.out HQ.out).mono ?_
  rintro e w8 ⟨C, rfl, hc, hb⟩
  have HBX8 := Lib.hid (HBX6.out.below hb)
  have HC8 := Lib.hid hc.in_
  have HFZ8 := Lib.hid (HFZ6.out.below hb)
  have HB8 := Lib.hid (bthen HB6.out hb)
  clear hc hb
  try go_simp
  refine hK.out _ _ ?hS12 (fun hHeld2 => ?_)
  case hS12 => first | with_reducible exact HBX3.out | exact HBX3.out | with_reducible exact HBX5.out | with_reducible exact HBX6.out | exact (HBX6.out.below (balloc (Below.refl _ _) _)) | exact (HBX6.out.below (balloc (balloc (Below.refl _ _) _) _)) | with_reducible exact HBX8.out
  clear hK K hHeld
  have hHeld := hHeld2
  clear hHeld2
  try simp only [Act.put, List.getElem_toArray, List.getElem_cons_succ, List.getElem_cons_zero, List.setIfInBounds_toArray, List.set_cons_zero, List.set_cons_succ]
  refine wpAnyH_take (i := 11) (v := ?v13) rfl (by kernel_rfl) (by kernel_rfl) (by kernel_rfl) (fun _ _ _ h => h) (Or.inl ⟨by rfl, ?hy13⟩) (by assumption) ?_
  case hy13 =>
    intro w' hSw
    (try dsimp only at hSw)
    go_simp
    try (with_reducible rfl)
  try simp only [Act.put, List.getElem_toArray, List.getElem_cons_succ, List.getElem_cons_zero, List.setIfInBounds_toArray, List.set_cons_zero, List.set_cons_succ]
  refine wpAnyH_done (by kernel_rfl) ?_ _
  have HKM := Lib.hid (tells_ok HPS.out.at_ HPS.out.tells)
  have HMLe := Lib.hid (show m.length ≤ 1000000 by have h1 := HPS.out.len.2; have h3 := HL.out; omega)
  have hfind : findE (sortEn (frL es m)) k.1 = if hasI m k.1 = true then some (blkOf es k.1) else none := by rw [findE_sort]; exact frL_find HPS.out.tells k.1
  have hcl : (sortEn (frL es m)).length ≤ 1000 := by rw [sortEn_len]; have := HQ.out; omega
  have CGx := Lib.hid (fun U (hU : Below w8.heap.size w8 U) => cutGet_any C 1 _ k.1 U (HC8.out.below hU) (ris_sort _) hcl)
  have CSx := Lib.hid (fun U (hU : Below w8.heap.size w8 U) => cutStat_any C 1 _ (ndF es) rs rh k.1 til 5 U (HC8.out.below hU) (ris_sort _) hcl (fun x hx => (HFZ8.out.below hU).nodes x ((mem_sortE _ _).1 hx)) (smpOk_fr HALL.out _) HR.out.r2 HT.out (by unfold I64; omega))
  have X1 := Lib.hid (fun U (hU : Below w8.heap.size w8 U) => ihas_any (.slice Am m.length cm) m k.1 U (HFZ8.out.2.1.1.below hU) HMLe.out (fun x hx => (HKM.out x hx).2) k.2)
  have X2 := Lib.hid (fun U (hU : Below w8.heap.size w8 U) => iget_any (.slice Am m.length cm) m k.1 U (HFZ8.out.2.1.1.below hU) HMLe.out (fun x hx => (HKM.out x hx).2) k.2)
  obtain ⟨a3, a3f, a3l⟩ := box_cells (Below.refl _ _) HBX8.out.2
  cases hh : hasI m k.1 with
  | true =>
    rw [hh] at X1
    rw [if_pos hh] at hfind
    have hmem := findE_mem hfind
    have X3 := Lib.hid (fun U (hU : Below w8.heap.size w8 U) => show Calls Tryz.prog 22 #[.pointer (some ⟨blkOf es k.1, 0, none⟩), .agg (loadC (getL m k.1)).toArray] U fun e w' => e = .returned (.bool true) ∧ Below U.heap.size U w' from by
      obtain ⟨fp, h1, _, _⟩ := (HFZ8.out.below hU).1 _ ((mem_sortE _ _).1 hmem)
      exact nhas19_any _ _ _ rs rh fp (getL m k.1) U h1 HR.out.r2 HR.out.h2 (getL_load (HFZ8.out.below hU).2.2 k.1) (ndF_same HPS.out.tells hh _))
    unfold cutSt at CSx
    rw [hfind] at CGx CSx
    simp only [Option.isSome_some] at CGx CSx
    have e0 : ptr (some (blkOf es k.1)) = .pointer (some ⟨blkOf es k.1, 0, none⟩) := rfl
    rw [e0] at CGx
    generalize blkOf es k.1 = b at *
    generalize statW _ til 5 = st at CSx
    obtain ⟨s0, s1, s2, s3, s4⟩ := st
    unfold stV at CSx
    simp only at CSx
    generalize loadC (getL m k.1) = q at X2 X3
    clear hh hfind hcl hmem e0
    as_aux_lemma =>
      go_wp2_with (first
        | (go_at_call 19
           have h9 := HBN
           refine (cutGet_nil k.1 w13).mono ?_
           rintro e w20 ⟨rfl, hb⟩
           have HB20 := Lib.hid (bthen HBN.out hb)
           clear hb h9)
        | (go_at_call 19
           refine (CGx.out w8 (Below.refl _ _)).mono ?_
           rintro e w9 ⟨rfl, hb⟩
           have HBX9 := Lib.hid (HBX8.out.below hb)
           obtain ⟨b1, b1f, b1l⟩ := box_cells (Below.refl _ _) HBX9.out.2
           have HB89a := Lib.hid hb
           clear hb)
        | (go_at_call 20
           refine (CSx.out w9 HB89a.out).mono ?_
           rintro e w10 ⟨rfl, hb⟩
           have HBX10 := Lib.hid (HBX9.out.below hb)
           obtain ⟨b4, b4f, b4l⟩ := box_cells (Below.refl _ _) HBX10.out.2
           have HB89b := Lib.hid (bthen HB89a.out hb)
           clear hb)
        | (go_at_call 21
           refine calls_named ?_
           intro W9 hW9
           have hb9 : Below w10.heap.size w10 W9 := by rw [hW9]; exact balloc (Below.refl _ _) _
           have hs9 : W9.heap[w10.heap.size]? = some (.cells #[.int .i64 s0, .int .i64 s1, .int .i64 s2, .int .i64 s3, .int .i64 s4] 60 (0, 0)) := by rw [hW9]; exact heap_alloc_new _ _
           clear hW9
           refine (X1.out W9 (bthen HB89b.out hb9)).mono ?_
           rintro e w11 ⟨rfl, hb⟩
           have HBX11 := Lib.hid (HBX10.out.below (bthen hb9 hb))
           obtain ⟨b5, b5f, b5l⟩ := box_cells (Below.refl _ _) HBX11.out.2
           obtain ⟨b6, b6f, b6l⟩ := box_cells hb hs9
           have HB11 := Lib.hid (bthen HB89b.out (bthen hb9 hb))
           clear hb hb9 hs9)
        | (go_at_call 23
           refine (X2.out w11 HB11.out).mono ?_
           rintro e w12 ⟨rfl, hb⟩
           have HBX12 := Lib.hid (HBX11.out.below hb)
           have HB12 := Lib.hid (bthen HB11.out hb)
           clear hb)
        | (go_at_call 22
           refine (X3.out w12 HB12.out).mono ?_
           rintro e w13 ⟨rfl, hb⟩
           have HBX13 := Lib.hid (HBX12.out.below hb)
           obtain ⟨b7, b7f, b7l⟩ := box_cells (Below.refl _ _) HBX13.out.2
           have HB13 := Lib.hid (bthen HB12.out hb)
           have HBN := Lib.hid (bthen HB8.out HB13.out)
           clear hb)
        | (go_at_call 15
           refine (cutEpoch_nil w20).mono ?_
           rintro e w21 ⟨rfl, hb⟩
           have HB21 := Lib.hid (bthen HB20.out hb)
           clear hb)
        | (go_at_call 24
           refine (cutKeys_nil w21).mono ?_
           rintro e w22 ⟨rfl, hb⟩
           have HB22 := Lib.hid (bthen HB21.out hb)
           clear hb)
        | (go_at_call 25
           refine (cutTotal_nil til 5 w22).mono ?_
           rintro e w23 ⟨rfl, hb⟩
           have HB23 := Lib.hid (bthen HB22.out hb)
           clear hb))
      go_ret
      exact ⟨rfl, HB23.out⟩
  | false =>
    rw [hh] at X1
    rw [if_neg (by rw [hh]; simp)] at hfind
    unfold cutSt at CSx
    rw [hfind] at CGx CSx
    simp only [Option.isSome_none] at CGx CSx
    have e0 : ptr (none : Option Nat) = .pointer none := rfl
    rw [e0] at CGx
    unfold st0 stV at CSx
    simp only at CSx
    clear hh hfind hcl e0
    as_aux_lemma =>
      go_wp2_with (first
        | (go_at_call 19
           have h9 := HBN
           refine (cutGet_nil k.1 w11).mono ?_
           rintro e w20 ⟨rfl, hb⟩
           have HB20 := Lib.hid (bthen HBN.out hb)
           clear hb h9)
        | (go_at_call 19
           refine (CGx.out w8 (Below.refl _ _)).mono ?_
           rintro e w9 ⟨rfl, hb⟩
           have HBX9 := Lib.hid (HBX8.out.below hb)
           obtain ⟨b1, b1f, b1l⟩ := box_cells (Below.refl _ _) HBX9.out.2
           have HB89a := Lib.hid hb
           clear hb)
        | (go_at_call 20
           refine (CSx.out w9 HB89a.out).mono ?_
           rintro e w10 ⟨rfl, hb⟩
           have HBX10 := Lib.hid (HBX9.out.below hb)
           obtain ⟨b4, b4f, b4l⟩ := box_cells (Below.refl _ _) HBX10.out.2
           have HB89b := Lib.hid (bthen HB89a.out hb)
           clear hb)
        | (go_at_call 21
           refine calls_named ?_
           intro W9 hW9
           have hb9 : Below w10.heap.size w10 W9 := by rw [hW9]; exact balloc (Below.refl _ _) _
           have hs9 : W9.heap[w10.heap.size]? = some (.cells #[.int .i64 0, .int .i64 0, .int .i64 0, .int .i64 0, .int .i64 0] 60 (0, 0)) := by rw [hW9]; exact heap_alloc_new _ _
           clear hW9
           refine (X1.out W9 (bthen HB89b.out hb9)).mono ?_
           rintro e w11 ⟨rfl, hb⟩
           have HBX11 := Lib.hid (HBX10.out.below (bthen hb9 hb))
           obtain ⟨b5, b5f, b5l⟩ := box_cells (Below.refl _ _) HBX11.out.2
           obtain ⟨b6, b6f, b6l⟩ := box_cells hb hs9
           have HB11 := Lib.hid (bthen HB89b.out (bthen hb9 hb))
           have HBN := Lib.hid (bthen HB8.out HB11.out)
           clear hb hb9 hs9)
        | (go_at_call 15
           refine (cutEpoch_nil w20).mono ?_
           rintro e w21 ⟨rfl, hb⟩
           have HB21 := Lib.hid (bthen HB20.out hb)
           clear hb)
        | (go_at_call 24
           refine (cutKeys_nil w21).mono ?_
           rintro e w22 ⟨rfl, hb⟩
           have HB22 := Lib.hid (bthen HB21.out hb)
           clear hb)
        | (go_at_call 25
           refine (cutTotal_nil til 5 w22).mono ?_
           rintro e w23 ⟨rfl, hb⟩
           have HB23 := Lib.hid (bthen HB22.out hb)
           clear hb))
      go_ret
      exact ⟨rfl, HB23.out⟩
end

section
set_option linter.unusedSimpArgs false
set_option linter.unusedVariables false
open Go.RowKit Go.Lib Go.Sort

set_option maxRecDepth 100000 in
set_option maxHeartbeats 4000000 in
theorem cfinds_nil (c : Cfg) (A1 : Option Addr) (n1 c1 : Nat) (k : KO) (til : Int) (w : World)  (hok : c.ok) (hc : cfgB c = false) :
    Calls Tryz.prog 4 #[cfgV c, .slice A1 n1 c1, .agg #[.int .u64 k.1.1, .int .u64 k.1.2], .int .i64 til] w fun e w' => e = .returned (.bool true) ∧ Below w.heap.size w w' := by
  have HRT : Hid (∀ W, Calls Tryz.prog 11 #[.agg #[.int .i64 c.st, .int .i64 c.sa, .int .i64 c.lo, .int .i64 c.hi]] W fun e w' => e = .returned (.bool false) ∧ Below W.heap.size W w') := Lib.hid (fun W => by have := ref17Right_any c W; rw [hc] at this; exact this)
  unfold cfgV
  clear hc hok 
  go_enter Tryz.func4, Tryz.ntmps4
  go_wp2_with (first
    | (go_at_call 10
       refine calls_named ?_
       intro W0 hW0
       have hb0 : Below w.heap.size w W0 := by rw [hW0]; first | exact balloc (Below.refl _ _) _ | exact balloc (balloc (Below.refl _ _) _) _
       have hxc : W0.heap[w.heap.size]? = some (.cells #[.int .i64 c.st, .int .i64 c.sa, .int .i64 c.lo, .int .i64 c.hi] 23 (0, 0)) := by rw [hW0]; first | exact heap_alloc_new _ _ | exact (Below.heap_alloc _ _ _ (by simp)).trans (heap_alloc_new _ _)
       clear hW0
       refine (awake19_any W0).mono ?_
       rintro e w1 ⟨rfl, hb1⟩
       obtain ⟨hxc1, hxc1f, hxc1l⟩ := box_cells hb1 hxc
       have HHXC := Lib.hid ((hb1.block _ (Array.getElem?_eq_some_iff.1 hxc).1).trans hxc)
       have HB1 := Lib.hid (bthen hb0 hb1)
       clear hb0 hxc hb1)
    | (go_at_call 11
       refine (HRT.out _).mono ?_
       rintro e w2 ⟨rfl, hb⟩
       obtain ⟨hx2, hx2f, hx2l⟩ := box_cells hb HHXC.out
       have HB2 := Lib.hid (bthen HB1.out hb)
       clear hb))
  go_ret
  exact ⟨rfl, HB2.out⟩

set_option maxRecDepth 100000 in
set_option maxHeartbeats 4000000 in
theorem cfinds_long1 (c : Cfg) (A1 : Option Addr) (n1 c1 : Nat) (k : KO) (til : Int) (w : World)  (h1 : 30 < n1) (hok : c.ok) (hc : cfgB c = true) :
    Calls Tryz.prog 4 #[cfgV c, .slice A1 n1 c1, .agg #[.int .u64 k.1.1, .int .u64 k.1.2], .int .i64 til] w fun e w' => e = .returned (.bool true) ∧ Below w.heap.size w w' := by
  have HRT : Hid (∀ W, Calls Tryz.prog 11 #[.agg #[.int .i64 c.st, .int .i64 c.sa, .int .i64 c.lo, .int .i64 c.hi]] W fun e w' => e = .returned (.bool true) ∧ Below W.heap.size W w') := Lib.hid (fun W => by have := ref17Right_any c W; rw [hc] at this; exact this)
  have q1 : (30 : Int) < (n1 : Int) := by omega
  unfold cfgV
  clear hc hok h1
  go_enter Tryz.func4, Tryz.ntmps4
  go_wp2_with (first
    | (go_at_call 10
       refine calls_named ?_
       intro W0 hW0
       have hb0 : Below w.heap.size w W0 := by rw [hW0]; first | exact balloc (Below.refl _ _) _ | exact balloc (balloc (Below.refl _ _) _) _
       have hxc : W0.heap[w.heap.size]? = some (.cells #[.int .i64 c.st, .int .i64 c.sa, .int .i64 c.lo, .int .i64 c.hi] 23 (0, 0)) := by rw [hW0]; first | exact heap_alloc_new _ _ | exact (Below.heap_alloc _ _ _ (by simp)).trans (heap_alloc_new _ _)
       clear hW0
       refine (awake19_any W0).mono ?_
       rintro e w1 ⟨rfl, hb1⟩
       obtain ⟨hxc1, hxc1f, hxc1l⟩ := box_cells hb1 hxc
       have HHXC := Lib.hid ((hb1.block _ (Array.getElem?_eq_some_iff.1 hxc).1).trans hxc)
       have HB1 := Lib.hid (bthen hb0 hb1)
       clear hb0 hxc hb1)
    | (go_at_call 11
       refine (HRT.out _).mono ?_
       rintro e w2 ⟨rfl, hb⟩
       obtain ⟨hx2, hx2f, hx2l⟩ := box_cells hb HHXC.out
       have HB2 := Lib.hid (bthen HB1.out hb)
       clear hb))
  go_ret
  exact ⟨rfl, HB2.out⟩
end

section
set_option linter.unusedSimpArgs false
set_option linter.unusedVariables false
open Go.RowKit Go.Lib Go.ChangeShapes Go.WideShapes Go.Joins

theorem i64_of_wf {n : Int} (h : (Lit.int .i64 n).wf = true) : I64 n := by simpa [Lit.wf, IntKind.min, IntKind.max, IntKind.signed, IntKind.bits, I64] using h

section
variable {H : Type} {enc : TypeId × Value → H} {w : World} {base : Nat} {spare : Nat → Bool} {held : Bool}

/-- One field of a struct that is a number. -/
theorem field_i64 {fuel : Nat} {t : TypeId} (ht : Tryz.prog.underlying t = some (.int .i64)) (hc : Tryz.prog.cellsOf t = 1) {cs : List Value} {xs : List (DataW H × List MemPlace)} {i o : Nat} (hi : i < xs.length) {v : Value} (hv : cs.drop o = v :: cs.drop (o + 1))
    (h : DataW.trod enc Tryz.prog w base spare held fuel t ((cs.drop o).take (Tryz.prog.cellsOf t)) = xs[i]?) : ∃ n, v = .int .i64 n ∧ I64 n := by
  rw [hc, hv, List.take_succ_cons, List.take_zero, List.getElem?_eq_getElem hi] at h
  obtain ⟨n, hn, _, hw⟩ := DataW.trod_int ht h
  simp only [List.cons.injEq, and_true] at hn
  exact ⟨n, hn, i64_of_wf hw⟩

end
end

section
set_option linter.unusedSimpArgs false
set_option linter.unusedVariables false
open Go.RowKit Go.Lib Go.ChangeShapes Go.WideShapes Go.Joins

theorem cfg_okW {c : Cfg} (hc : cfgB c = true) (hok : c.ok) : CfgOk c c.sa.toNat c.hi.toNat := by
  have h := hc
  unfold cfgB at h
  simp only [Bool.and_eq_true, decide_eq_true_eq] at h
  exact ⟨hc, by omega, by omega, hok⟩
section
variable {H : Type} {enc : TypeId × Value → H} {w : World} {base : Nat} {spare : Nat → Bool} {held : Bool}
set_option maxRecDepth 100000 in
theorem ssmp_readsI {fuel : Nat} {cs : List Value} {x : DataW H × List MemPlace} (h : DataW.trod enc Tryz.prog w base spare held fuel 42 cs = some x) :
    ∃ p : Smp, (I64 p.1 ∧ I64 p.2) ∧ cs = smpC p := by
  obtain ⟨xs, n, _, _, hl, hx, hf⟩ := DataW.trod_struct Tryz.underlying42 h
  rw [cl_ssmp] at hl
  replace hx : xs.length = 2 := hx
  match cs, hl with
  | [a0, a1], _ =>
    obtain ⟨n0, rfl, k0⟩ := field_i64 Tryz.underlying2 cl_si64 (i := 0) (by omega) (o := 0) rfl (hf 0 _ rfl)
    obtain ⟨n1, rfl, k1⟩ := field_i64 Tryz.underlying2 cl_si64 (i := 1) (by omega) (o := 1) rfl (hf 1 _ rfl)
    exact ⟨(n0, n1), ⟨k0, k1⟩, rfl⟩
set_option maxRecDepth 100000 in
theorem a17_readsI {fuel : Nat} {cs : List Value} {x : DataW H × List MemPlace} (h : DataW.trod enc Tryz.prog w base spare held fuel 48 cs = some x) :
    ∃ a : Act17, (I64 a.smp.1 ∧ I64 a.smp.2) ∧ cs = act17C a := by
  obtain ⟨xs, n, _, _, hl, hx, hf⟩ := DataW.trod_struct Tryz.underlying48 h
  rw [cl_sa17] at hl
  replace hx : xs.length = 4 := hx
  match cs, hl with
  | [a0, a1, a2, a3, a4, a5, a6, a7, a8, a9, a10, a11, a12, a13], _ =>
    obtain ⟨n0, rfl⟩ := sfield Tryz.underlying3 cl_sint (i := 0) (by omega) (o := 0) rfl (hf 0 _ rfl)
    have h1 := hf 1 _ rfl
    have h2 := hf 2 _ rfl
    have h3 := hf 3 _ rfl
    rw [List.getElem?_eq_getElem (by omega)] at h1 h2 h3
    obtain ⟨s, hsI, hs⟩ := ssmp_readsI h1
    obtain ⟨p, hp⟩ := spol_reads h2
    obtain ⟨v, hv⟩ := sadv_reads h3
    replace hs : ([a1, a2, a3, a4, a5, a6, a7, a8, a9, a10, a11, a12, a13] : List Value).take (Tryz.prog.cellsOf 42) = _ := hs
    replace hp : ([a3, a4, a5, a6, a7, a8, a9, a10, a11, a12, a13] : List Value).take (Tryz.prog.cellsOf 44) = _ := hp
    replace hv : ([a9, a10, a11, a12, a13] : List Value).take (Tryz.prog.cellsOf 46) = _ := hv
    rw [cl_ssmp] at hs
    rw [cl_spol] at hp
    rw [cl_sadv] at hv
    simp only [smpC, advC, List.take_succ_cons, List.take_zero, List.cons.injEq, and_true] at hs hp hv
    obtain ⟨rfl, rfl⟩ := hs
    obtain ⟨rfl, rfl, rfl, rfl, rfl, rfl⟩ := hp
    obtain ⟨rfl, rfl, rfl, rfl, rfl⟩ := hv
    exact ⟨⟨n0, s, p, v⟩, hsI, rfl⟩
set_option maxRecDepth 100000 in
theorem a18_readsI {fuel : Nat} {cs : List Value} {x : DataW H × List MemPlace} (h : DataW.trod enc Tryz.prog w base spare held fuel 50 cs = some x) :
    ∃ (k : Ky) (a : Act17), k.ok ∧ (I64 a.smp.1 ∧ I64 a.smp.2) ∧ cs = act18C k a := by
  obtain ⟨xs, n, _, _, hl, hx, hf⟩ := DataW.trod_struct Tryz.underlying50 h
  rw [cl_sa18] at hl
  replace hx : xs.length = 2 := hx
  match cs, hl with
  | [a0, a1, a2, a3, a4, a5, a6, a7, a8, a9, a10, a11, a12, a13, a14, a15], _ =>
    have h0 := hf 0 _ rfl
    have h1 := hf 1 _ rfl
    rw [List.getElem?_eq_getElem (by omega)] at h0 h1
    obtain ⟨k, hk, hs⟩ := key_reads h0
    obtain ⟨a, haI, hp⟩ := a17_readsI h1
    replace hs : ([a0, a1, a2, a3, a4, a5, a6, a7, a8, a9, a10, a11, a12, a13, a14, a15] : List Value).take (Tryz.prog.cellsOf 40) = _ := hs
    replace hp : ([a2, a3, a4, a5, a6, a7, a8, a9, a10, a11, a12, a13, a14, a15] : List Value).take (Tryz.prog.cellsOf 48) = _ := hp
    rw [cl_key] at hs
    rw [cl_sa17] at hp
    simp only [keyC, act17C, List.take_succ_cons, List.take_zero, List.cons.injEq, and_true] at hs hp
    obtain ⟨rfl, rfl⟩ := hs
    obtain ⟨rfl, rfl, rfl, rfl, rfl, rfl, rfl, rfl, rfl, rfl, rfl, rfl, rfl, rfl⟩ := hp
    exact ⟨k, a, hk, haI, rfl⟩

theorem actsK_readI {fuel : Nat} {cs : List Value} {x : DataW H × List MemPlace} (h : DataW.trod enc Tryz.prog w base spare held fuel 24 cs = some x) :
    ∃ (v : Value) (l : List ActK), cs = [v] ∧ ((∀ p ∈ l, p.1.ok) ∧ (∀ p ∈ l, I64 p.2.smp.1 ∧ I64 p.2.smp.2)) ∧ RowIn 16 actKC w v l := by
  haveI : Inhabited ActK := ⟨((0, 0), ⟨0, (0, 0), pol0, adv0⟩)⟩
  obtain ⟨v, l, h1, _, h3, h4⟩ := row_read (ok := fun p : ActK => p.1.ok ∧ I64 p.2.smp.1 ∧ I64 p.2.smp.2) (f := actKC) Tryz.underlying24 cl_sa18 (by decide) (fun _ _ _ h => by obtain ⟨k, a, hk, hi, rfl⟩ := a18_readsI h; exact ⟨(k, a), ⟨hk, hi⟩, rfl⟩) h
  exact ⟨v, l, h1, ⟨fun p hp => (h3 p hp).1, fun p hp => (h3 p hp).2⟩, h4⟩
end
end

section
set_option linter.unusedSimpArgs false
set_option linter.unusedVariables false
open Go.RowKit Go.Lib Go.Sort
theorem cfinds_walk (c : Cfg) (v : Value) (l : List ActK) (k : KO) (til : Int) (w : World) (hc : c.ok) (hv : RowIn 16 actKC w v l) (hok : (∀ p ∈ l, p.1.ok) ∧ ∀ p ∈ l, I64 p.2.smp.1 ∧ I64 p.2.smp.2) (ht : I64 til) :
    Calls Tryz.prog 4 #[cfgV c, v, .agg #[.int .u64 k.1.1, .int .u64 k.1.2], .int .i64 til] w fun e w' => e = .returned (.bool true) ∧ Below w.heap.size w w' := by
  obtain ⟨A, cc, rfl⟩ := hv.form
  cases hb : cfgB c with
  | false => exact cfinds_nil c A _ cc k til w hc hb
  | true =>
    by_cases hl : l.length ≤ 30
    · exact cfinds_main c _ _ _ l k til w hv hok.1 hok.2 hl (cfg_okW hb hc) ht
    · exact cfinds_long1 c A _ cc k til w (by omega) hc hb
end

end Go.Proofs.YtfegielnmdppgaaGreat
