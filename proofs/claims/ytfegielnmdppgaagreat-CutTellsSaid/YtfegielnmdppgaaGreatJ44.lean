/- Walks of sat.Ceil and window.Merge. -/
import Derived.Test.YtfegielnmdppgaaGreatJ43
import Derived.Deep.DeepCutAuto
namespace Go.Proofs.YtfegielnmdppgaaGreat

section
set_option linter.unusedSimpArgs false
set_option linter.unusedVariables false
open Go.RowKit Go.Lib

theorem tdiv_pos {a b : Int} (ha : 0 ≤ a) : a.tdiv b = a / b := Int.tdiv_eq_ediv_of_nonneg ha
theorem ceil_hi {a b : Int} (hb : 1 ≤ b) (h : 0 < a.tmod b) : a.tdiv b + 1 = ceilI a b := by
  have ha : 0 < a := by
    by_cases h0 : 0 < a
    · exact h0
    · exfalso
      have h1 := Int.mul_tdiv_add_tmod a b
      have : a.tmod b ≤ 0 := by
        rw [← Int.neg_neg a, Int.neg_tmod]
        have := Int.tmod_nonneg b (show 0 ≤ -a by omega)
        omega
      omega
  unfold ceilI
  rw [if_neg (by omega), if_neg (by omega), tdiv_pos (by omega), tdiv_pos (by omega)]
  rw [Int.tmod_eq_emod_of_nonneg (by omega)] at h
  have h1 := Int.mul_ediv_add_emod a b
  have h2 := Int.emod_lt_of_pos a (show 0 < b by omega)
  have e : a - 1 = (a % b - 1) + b * (a / b) := by omega
  have h3 : (a % b - 1) / b = 0 := Int.ediv_eq_zero_of_lt (by omega) (by omega)
  have h4 : (a - 1) / b = a / b := by
    rw [e, Int.add_mul_ediv_left _ _ (by omega), h3]
    omega
  omega
theorem ceil_lo {a b : Int} (hb : 1 ≤ b) (h : ¬ 0 < a.tmod b) : a.tdiv b = ceilI a b := by
  unfold ceilI
  rw [if_neg (by omega)]
  by_cases h0 : a ≤ 0
  · rw [if_pos h0]
  · rw [if_neg h0, tdiv_pos (by omega), tdiv_pos (by omega)]
    rw [Int.tmod_eq_emod_of_nonneg (by omega)] at h
    have h1 := Int.mul_ediv_add_emod a b
    have h2 := Int.emod_nonneg a (show b ≠ 0 by omega)
    have e : a - 1 = (b - 1) + b * (a / b - 1) := by rw [Int.mul_sub]; omega
    have h3 : (b - 1) / b = 0 := Int.ediv_eq_zero_of_lt (by omega) (by omega)
    rw [e, Int.add_mul_ediv_left _ _ (by omega), h3]
    omega

set_option maxRecDepth 100000 in
set_option maxHeartbeats 1000000 in
theorem satCeil_any (a b : Int) (w : World) (ha : I64 a) (hb : I64 b) :
    Calls Tryz.prog 125 #[.int .i64 a, .int .i64 b] w fun e w' => e = .returned (.int .i64 (ceilI a b)) ∧ w' = w := by
  by_cases h1 : b < 1
  · have HC := Lib.hid (show ceilI a b = 0 by unfold ceilI; rw [if_pos h1])
    clear ha hb
    go_enter Tryz.func125, Tryz.ntmps125
    go_wp2
    go_ret
    exact ⟨by rw [HC.out]; rfl, rfl⟩
  · have HI := ceilI_ok (b := b) ha
    have q0 : (b == 0) = false := by simp; omega
    have q1 : ¬ b = 0 := by omega
    have HHI := Lib.hid (fun h : 0 < a.tmod b => ceil_hi (a := a) (b := b) (by omega) h)
    have HLO := Lib.hid (fun h : ¬ 0 < a.tmod b => ceil_lo (a := a) (b := b) (by omega) h)
    have HII := Lib.hid HI
    clear HI ha hb
    go_enter Tryz.func125, Tryz.ntmps125
    go_wp2
    · rename_i h5
      have h6 := HHI.out h5
      have h7 := HII.out
      rw [← h6] at h7
      go_ret
      refine ⟨ret_int ?_, rfl⟩
      rw [← h6]
      generalize a.tdiv b = q at h7
      unfold wrap64
      unfold I64 at h7
      omega
    · rename_i h5
      have h6 := HLO.out (by omega)
      have h7 := HII.out
      rw [← h6] at h7
      go_ret
      refine ⟨ret_int ?_, rfl⟩
      rw [← h6]
      generalize a.tdiv b = q at h7
      unfold wrap64
      unfold I64 at h7
      omega

theorem satAdd_s (a b : Int) (w : World) (ha : I64 a) (hb : I64 b) :
    Calls Tryz.prog 124 #[.int .i64 a, .int .i64 b] w fun e w' => e = .returned (.int .i64 (endsI (a + b))) ∧ w' = w := (satAdd_any a b w ha hb).mono fun _ _ h => ⟨h.1, h.2.symm⟩

def MgS (w : World) (a b : Array Value) (U : World) : Prop := Below w.heap.size w U ∧ U.heap[w.heap.size]? = some (.cells a 60 (0, 0)) ∧ U.heap[w.heap.size + 1]? = some (.cells b 60 (0, 0)) ∧ ∃ o, U.heap[w.heap.size + 1 + 1]? = some (.cells o 60 (0, 0))
theorem set5S {w X : World} {a b : Array Value} {i : Nat} {v : Value} (h : MgS w a b X) : MgS w a b (X.setCell ⟨w.heap.size + 1 + 1, i, none⟩ v) := by
  obtain ⟨h1, h2, h3, o, h4⟩ := h
  exact ⟨h1.setCell (by simp; omega) _, heap_set_ne h2 (by omega), heap_set_ne h3 (by omega), _, setCell_block h4⟩
set_option maxRecDepth 100000 in
set_option maxHeartbeats 4000000 in
theorem winMerge_any (a b : StD) (w : World) (ha : a.ok) (hb : b.ok) :
    Calls Tryz.prog 59 #[stV a, stV b] w fun e w' => e = .returned (stV (mergeW a b)) ∧ Below w.heap.size w w' := by
  obtain ⟨a0, a1, a2, a3, a4⟩ := a
  obtain ⟨b0, b1, b2, b3, b4⟩ := b
  have HA := Lib.hid ha
  have HB := Lib.hid hb
  unfold stV
  simp only
  clear ha hb
  by_cases h1 : a0 < 1
  · have HM := Lib.hid (show mergeW ⟨a0, a1, a2, a3, a4⟩ ⟨b0, b1, b2, b3, b4⟩ = ⟨b0, b1, b2, b3, b4⟩ by unfold mergeW; rw [if_pos h1])
    as_aux_lemma =>
    go_enter Tryz.func59, Tryz.ntmps59
    go_wp2_with fail
    refine bodyPost_ret (v := .agg #[.int .i64 b0, .int .i64 b1, .int .i64 b2, .int .i64 b3, .int .i64 b4]) (by simp [results, Tryz.results59, go_sem]) rfl ⟨by rw [HM.out], ?_⟩
    repeat' (first | exact Below.refl _ _ | refine balloc ?_ _)
  · by_cases h2 : b0 < 1
    · have HM := Lib.hid (show mergeW ⟨a0, a1, a2, a3, a4⟩ ⟨b0, b1, b2, b3, b4⟩ = ⟨a0, a1, a2, a3, a4⟩ by unfold mergeW; rw [if_neg h1, if_pos h2])
      as_aux_lemma =>
      go_enter Tryz.func59, Tryz.ntmps59
      go_wp2_with fail
      refine bodyPost_ret (v := .agg #[.int .i64 a0, .int .i64 a1, .int .i64 a2, .int .i64 a3, .int .i64 a4]) (by simp [results, Tryz.results59, go_sem]) rfl ⟨by rw [HM.out], ?_⟩
      repeat' (first | exact Below.refl _ _ | refine balloc ?_ _)
    · have HM := Lib.hid (show mergeW ⟨a0, a1, a2, a3, a4⟩ ⟨b0, b1, b2, b3, b4⟩ = ⟨endsI (a0 + b0), endsI (a1 + b1), min a2 b2, max a3 b3, ceilI (endsI (a1 + b1)) (endsI (a0 + b0))⟩ by unfold mergeW; rw [if_neg h1, if_neg h2])
      have C0 := Lib.hid (fun W => satAdd_s a0 b0 W HA.out.1 HB.out.1)
      have C1 := Lib.hid (fun W => satAdd_s a1 b1 W HA.out.2.1 HB.out.2.1)
      have C2 := Lib.hid (fun W => satCeil_any (endsI (a1 + b1)) (endsI (a0 + b0)) W (endsI_i64 _) (endsI_i64 _))
      generalize ceilI (endsI (a1 + b1)) (endsI (a0 + b0)) = c4 at HM C2
      generalize endsI (a0 + b0) = c0 at HM C0 C2
      generalize endsI (a1 + b1) = c1 at HM C1 C2
      as_aux_lemma =>
      go_enter Tryz.func59, Tryz.ntmps59
      go_upto_region 5 with fail
      refine name_world ?_
      intro W hW
      have hS : (fun U : World => Below w.heap.size w U ∧ U.heap[w.heap.size]? = some (.cells #[.int .i64 a0, .int .i64 a1, .int .i64 a2, .int .i64 a3, .int .i64 a4] 60 (0, 0)) ∧ U.heap[w.heap.size + 1]? = some (.cells #[.int .i64 b0, .int .i64 b1, .int .i64 b2, .int .i64 b3, .int .i64 b4] 60 (0, 0)) ∧ ∃ o, U.heap[w.heap.size + 1 + 1]? = some (.cells o 60 (0, 0))) W := by
        rw [hW]
        exact ⟨balloc (balloc (balloc (Below.refl _ _) _) _) _, box3_0 _ _ _ _, box3_1 _ _ _ _, _, box3_2 _ _ _ _⟩
      have hR : W.heap[w.heap.size + 1 + 1]? = some (.cells #[.int .i64 0, .int .i64 0, .int .i64 0, .int .i64 0, .int .i64 0] 60 (0, 0)) := by rw [hW]; exact box3_2 _ _ _ _
      have HS := Lib.hid hS
      have HSd : Hid ((fun U : World => Below w.heap.size w U ∧ U.heap[w.heap.size]? = some (.cells #[.int .i64 a0, .int .i64 a1, .int .i64 a2, .int .i64 a3, .int .i64 a4] 60 (0, 0)) ∧ U.heap[w.heap.size + 1]? = some (.cells #[.int .i64 b0, .int .i64 b1, .int .i64 b2, .int .i64 b3, .int .i64 b4] 60 (0, 0)) ∧ ∃ o, U.heap[w.heap.size + 1 + 1]? = some (.cells o 60 (0, 0))) W.drew) := Lib.hid ⟨hS.1.drew, hS.2⟩
      have HR := Lib.hid hR
      have HSE : Hid ((fun U : World => Below w.heap.size w U ∧ U.heap[w.heap.size]? = some (.cells #[.int .i64 a0, .int .i64 a1, .int .i64 a2, .int .i64 a3, .int .i64 a4] 60 (0, 0)) ∧ U.heap[w.heap.size + 1]? = some (.cells #[.int .i64 b0, .int .i64 b1, .int .i64 b2, .int .i64 b3, .int .i64 b4] 60 (0, 0)) ∧ ∃ o, U.heap[w.heap.size + 1 + 1]? = some (.cells o 60 (0, 0))) (((((W.setCell ⟨w.heap.size + 1 + 1, 0, none⟩ (.int .i64 c0)).setCell ⟨w.heap.size + 1 + 1, 1, none⟩ (.int .i64 c1)).setCell ⟨w.heap.size + 1 + 1, 2, none⟩ (.int .i64 (min a2 b2))).setCell ⟨w.heap.size + 1 + 1, 3, none⟩ (.int .i64 (max a3 b3))).setCell ⟨w.heap.size + 1 + 1, 4, none⟩ (.int .i64 c4)).drew) := Lib.hid (by
        have h5 := set5S (i := 4) (v := .int .i64 c4) (set5S (i := 3) (v := .int .i64 (max a3 b3)) (set5S (i := 2) (v := .int .i64 (min a2 b2)) (set5S (i := 1) (v := .int .i64 c1) (set5S (i := 0) (v := .int .i64 c0) hS))))
        exact ⟨h5.1.drew, h5.2⟩)
      obtain ⟨r1, r2, r3⟩ := box_cells (Below.drew (Below.refl W.heap.size W)) hR
      obtain ⟨r4, r5, r6⟩ := box_cells (Below.refl W.heap.size W) hR
      clear hW hS hR
      refine wp_region_held_drew (S := (fun U : World => Below w.heap.size w U ∧ U.heap[w.heap.size]? = some (.cells #[.int .i64 a0, .int .i64 a1, .int .i64 a2, .int .i64 a3, .int .i64 a4] 60 (0, 0)) ∧ U.heap[w.heap.size + 1]? = some (.cells #[.int .i64 b0, .int .i64 b1, .int .i64 b2, .int .i64 b3, .int .i64 b4] 60 (0, 0)) ∧ ∃ o, U.heap[w.heap.size + 1 + 1]? = some (.cells o 60 (0, 0)))) (by kernel_rfl) ?hS1 (fun hHeld => ?_)
      case hS1 => first | with_reducible exact HS.out | with_reducible exact HSd.out | exact HSE.out
      refine wpAnyH_take (i := 0) (v := ?v2) rfl (by kernel_rfl) (by kernel_rfl) (by kernel_rfl) (fun _ _ _ h => h) (Or.inl ⟨by rfl, ?hy2⟩) (by assumption) ?_
      case hy2 =>
        intro w' hSw
        (try dsimp only at hSw)
        go_simp
        try (with_reducible rfl)
      try simp only [Act.put, List.getElem_toArray, List.getElem_cons_succ, List.getElem_cons_zero, List.setIfInBounds_toArray, List.set_cons_zero, List.set_cons_succ]
      refine wpAnyH_take (i := 1) (v := ?v3) rfl (by kernel_rfl) (by kernel_rfl) (by kernel_rfl) (fun _ _ _ h => h) (Or.inl ⟨by rfl, ?hy3⟩) (by assumption) ?_
      case hy3 =>
        intro w' hSw
        (try dsimp only at hSw)
        have q1 := (box_cells (Below.refl _ _) hSw.2.1).1
        go_simp
        try (with_reducible rfl)
      try simp only [Act.put, List.getElem_toArray, List.getElem_cons_succ, List.getElem_cons_zero, List.setIfInBounds_toArray, List.set_cons_zero, List.set_cons_succ]
      refine wpAnyH_take (i := 2) (v := ?v4) rfl (by kernel_rfl) (by kernel_rfl) (by kernel_rfl) (fun _ _ _ h => h) (Or.inl ⟨by rfl, ?hy4⟩) (by assumption) ?_
      case hy4 =>
        intro w' hSw
        (try dsimp only at hSw)
        go_simp
        try (with_reducible rfl)
      try simp only [Act.put, List.getElem_toArray, List.getElem_cons_succ, List.getElem_cons_zero, List.setIfInBounds_toArray, List.set_cons_zero, List.set_cons_succ]
      refine wpAnyH_take (i := 3) (v := ?v5) rfl (by kernel_rfl) (by kernel_rfl) (by kernel_rfl) (fun _ _ _ h => h) (Or.inl ⟨by rfl, ?hy5⟩) (by assumption) ?_
      case hy5 =>
        intro w' hSw
        (try dsimp only at hSw)
        have q1 := (box_cells (Below.refl _ _) hSw.2.2.1).1
        go_simp
        try (with_reducible rfl)
      try simp only [Act.put, List.getElem_toArray, List.getElem_cons_succ, List.getElem_cons_zero, List.setIfInBounds_toArray, List.set_cons_zero, List.set_cons_succ]
      refine wpAnyH_take (i := 5) (v := ?v6) rfl (by kernel_rfl) (by kernel_rfl) (by kernel_rfl) (fun _ _ _ h => h) (Or.inl ⟨by rfl, ?hy6⟩) (by assumption) ?_
      case hy6 =>
        intro w' hSw
        (try dsimp only at hSw)
        go_simp
        try (with_reducible rfl)
      try simp only [Act.put, List.getElem_toArray, List.getElem_cons_succ, List.getElem_cons_zero, List.setIfInBounds_toArray, List.set_cons_zero, List.set_cons_succ]
      refine wpAnyH_take (i := 6) (v := ?v7) rfl (by kernel_rfl) (by kernel_rfl) (by kernel_rfl) (fun _ _ _ h => h) (Or.inl ⟨by rfl, ?hy7⟩) (by assumption) ?_
      case hy7 =>
        intro w' hSw
        (try dsimp only at hSw)
        have q1 := (box_cells (Below.refl _ _) hSw.2.1).1
        go_simp
        try (with_reducible rfl)
      try simp only [Act.put, List.getElem_toArray, List.getElem_cons_succ, List.getElem_cons_zero, List.setIfInBounds_toArray, List.set_cons_zero, List.set_cons_succ]
      refine wpAnyH_take (i := 7) (v := ?v8) rfl (by kernel_rfl) (by kernel_rfl) (by kernel_rfl) (fun _ _ _ h => h) (Or.inl ⟨by rfl, ?hy8⟩) (by assumption) ?_
      case hy8 =>
        intro w' hSw
        (try dsimp only at hSw)
        go_simp
        try (with_reducible rfl)
      try simp only [Act.put, List.getElem_toArray, List.getElem_cons_succ, List.getElem_cons_zero, List.setIfInBounds_toArray, List.set_cons_zero, List.set_cons_succ]
      refine wpAnyH_take (i := 8) (v := ?v9) rfl (by kernel_rfl) (by kernel_rfl) (by kernel_rfl) (fun _ _ _ h => h) (Or.inl ⟨by rfl, ?hy9⟩) (by assumption) ?_
      case hy9 =>
        intro w' hSw
        (try dsimp only at hSw)
        have q1 := (box_cells (Below.refl _ _) hSw.2.2.1).1
        go_simp
        try (with_reducible rfl)
      try simp only [Act.put, List.getElem_toArray, List.getElem_cons_succ, List.getElem_cons_zero, List.setIfInBounds_toArray, List.set_cons_zero, List.set_cons_succ]
      refine wpAnyH_take (i := 10) (v := ?v10) rfl (by kernel_rfl) (by kernel_rfl) (by kernel_rfl) (fun _ _ _ h => h) (Or.inl ⟨by rfl, ?hy10⟩) (by assumption) ?_
      case hy10 =>
        intro w' hSw
        (try dsimp only at hSw)
        go_simp
        try (with_reducible rfl)
      try simp only [Act.put, List.getElem_toArray, List.getElem_cons_succ, List.getElem_cons_zero, List.setIfInBounds_toArray, List.set_cons_zero, List.set_cons_succ]
      refine wpAnyH_take (i := 11) (v := ?v11) rfl (by kernel_rfl) (by kernel_rfl) (by kernel_rfl) (fun _ _ _ h => h) (Or.inl ⟨by rfl, ?hy11⟩) (by assumption) ?_
      case hy11 =>
        intro w' hSw
        (try dsimp only at hSw)
        have q1 := (box_cells (Below.refl _ _) hSw.2.1).1
        go_simp
        try (with_reducible rfl)
      try simp only [Act.put, List.getElem_toArray, List.getElem_cons_succ, List.getElem_cons_zero, List.setIfInBounds_toArray, List.set_cons_zero, List.set_cons_succ]
      refine wpAnyH_take (i := 12) (v := ?v12) rfl (by kernel_rfl) (by kernel_rfl) (by kernel_rfl) (fun _ _ _ h => h) (Or.inl ⟨by rfl, ?hy12⟩) (by assumption) ?_
      case hy12 =>
        intro w' hSw
        (try dsimp only at hSw)
        go_simp
        try (with_reducible rfl)
      try simp only [Act.put, List.getElem_toArray, List.getElem_cons_succ, List.getElem_cons_zero, List.setIfInBounds_toArray, List.set_cons_zero, List.set_cons_succ]
      refine wpAnyH_take (i := 13) (v := ?v13) rfl (by kernel_rfl) (by kernel_rfl) (by kernel_rfl) (fun _ _ _ h => h) (Or.inl ⟨by rfl, ?hy13⟩) (by assumption) ?_
      case hy13 =>
        intro w' hSw
        (try dsimp only at hSw)
        have q1 := (box_cells (Below.refl _ _) hSw.2.2.1).1
        go_simp
        try (with_reducible rfl)
      try simp only [Act.put, List.getElem_toArray, List.getElem_cons_succ, List.getElem_cons_zero, List.setIfInBounds_toArray, List.set_cons_zero, List.set_cons_succ]
      refine wpAnyH_take (i := 14) (v := ?v14) rfl (by kernel_rfl) (by kernel_rfl) (by kernel_rfl) (fun _ _ _ h => h) (Or.inl ⟨by rfl, ?hy14⟩) (by assumption) ?_
      case hy14 =>
        intro w' hSw
        (try dsimp only at hSw)
        go_simp
        try (with_reducible rfl)
      try simp only [Act.put, List.getElem_toArray, List.getElem_cons_succ, List.getElem_cons_zero, List.setIfInBounds_toArray, List.set_cons_zero, List.set_cons_succ]
      refine wpAnyH_take (i := 15) (v := ?v15) rfl (by kernel_rfl) (by kernel_rfl) (by kernel_rfl) (fun _ _ _ h => h) (Or.inl ⟨by rfl, ?hy15⟩) (by assumption) ?_
      case hy15 =>
        intro w' hSw
        (try dsimp only at hSw)
        go_simp
        try (with_reducible rfl)
      try simp only [Act.put, List.getElem_toArray, List.getElem_cons_succ, List.getElem_cons_zero, List.setIfInBounds_toArray, List.set_cons_zero, List.set_cons_succ]
      refine wpAnyH_take (i := 16) (v := ?v16) rfl (by kernel_rfl) (by kernel_rfl) (by kernel_rfl) (fun _ _ _ h => h) (Or.inl ⟨by rfl, ?hy16⟩) (by assumption) ?_
      case hy16 =>
        intro w' hSw
        (try dsimp only at hSw)
        have q1 := (box_cells (Below.refl _ _) hSw.2.1).1
        go_simp
        try (with_reducible rfl)
      try simp only [Act.put, List.getElem_toArray, List.getElem_cons_succ, List.getElem_cons_zero, List.setIfInBounds_toArray, List.set_cons_zero, List.set_cons_succ]
      refine wpAnyH_take (i := 17) (v := ?v17) rfl (by kernel_rfl) (by kernel_rfl) (by kernel_rfl) (fun _ _ _ h => h) (Or.inl ⟨by rfl, ?hy17⟩) (by assumption) ?_
      case hy17 =>
        intro w' hSw
        (try dsimp only at hSw)
        go_simp
        try (with_reducible rfl)
      try simp only [Act.put, List.getElem_toArray, List.getElem_cons_succ, List.getElem_cons_zero, List.setIfInBounds_toArray, List.set_cons_zero, List.set_cons_succ]
      refine wpAnyH_take (i := 18) (v := ?v18) rfl (by kernel_rfl) (by kernel_rfl) (by kernel_rfl) (fun _ _ _ h => h) (Or.inl ⟨by rfl, ?hy18⟩) (by assumption) ?_
      case hy18 =>
        intro w' hSw
        (try dsimp only at hSw)
        have q1 := (box_cells (Below.refl _ _) hSw.2.2.1).1
        go_simp
        try (with_reducible rfl)
      try simp only [Act.put, List.getElem_toArray, List.getElem_cons_succ, List.getElem_cons_zero, List.setIfInBounds_toArray, List.set_cons_zero, List.set_cons_succ]
      refine wpAnyH_take (i := 19) (v := ?v19) rfl (by kernel_rfl) (by kernel_rfl) (by kernel_rfl) (fun _ _ _ h => h) (Or.inl ⟨by rfl, ?hy19⟩) (by assumption) ?_
      case hy19 =>
        intro w' hSw
        (try dsimp only at hSw)
        go_simp
        try (with_reducible rfl)
      try simp only [Act.put, List.getElem_toArray, List.getElem_cons_succ, List.getElem_cons_zero, List.setIfInBounds_toArray, List.set_cons_zero, List.set_cons_succ]
      refine wpAnyH_take (i := 20) (v := ?v20) rfl (by kernel_rfl) (by kernel_rfl) (by kernel_rfl) (fun _ _ _ h => h) (Or.inl ⟨by rfl, ?hy20⟩) (by assumption) ?_
      case hy20 =>
        intro w' hSw
        (try dsimp only at hSw)
        go_simp
        try (with_reducible rfl)
      try simp only [Act.put, List.getElem_toArray, List.getElem_cons_succ, List.getElem_cons_zero, List.setIfInBounds_toArray, List.set_cons_zero, List.set_cons_succ]
      refine wpAnyH_take (i := 21) (v := ?v21) rfl (by kernel_rfl) (by kernel_rfl) (by kernel_rfl) (fun _ _ _ h => h) (Or.inl ⟨by rfl, ?hy21⟩) (by assumption) ?_
      case hy21 =>
        intro w' hSw
        (try dsimp only at hSw)
        have q1 := (box_cells (Below.refl _ _) hSw.2.1).1
        go_simp
        try (with_reducible rfl)
      try simp only [Act.put, List.getElem_toArray, List.getElem_cons_succ, List.getElem_cons_zero, List.setIfInBounds_toArray, List.set_cons_zero, List.set_cons_succ]
      refine wpAnyH_take (i := 22) (v := ?v22) rfl (by kernel_rfl) (by kernel_rfl) (by kernel_rfl) (fun _ _ _ h => h) (Or.inl ⟨by rfl, ?hy22⟩) (by assumption) ?_
      case hy22 =>
        intro w' hSw
        (try dsimp only at hSw)
        go_simp
        try (with_reducible rfl)
      try simp only [Act.put, List.getElem_toArray, List.getElem_cons_succ, List.getElem_cons_zero, List.setIfInBounds_toArray, List.set_cons_zero, List.set_cons_succ]
      refine wpAnyH_take (i := 23) (v := ?v23) rfl (by kernel_rfl) (by kernel_rfl) (by kernel_rfl) (fun _ _ _ h => h) (Or.inl ⟨by rfl, ?hy23⟩) (by assumption) ?_
      case hy23 =>
        intro w' hSw
        (try dsimp only at hSw)
        have q1 := (box_cells (Below.refl _ _) hSw.2.2.1).1
        go_simp
        try (with_reducible rfl)
      try simp only [Act.put, List.getElem_toArray, List.getElem_cons_succ, List.getElem_cons_zero, List.setIfInBounds_toArray, List.set_cons_zero, List.set_cons_succ]
      refine wpAnyH_take (i := 25) (v := ?v24) rfl (by kernel_rfl) (by kernel_rfl) (by kernel_rfl) (fun _ _ _ h => h) (Or.inl ⟨by rfl, ?hy24⟩) (by assumption) ?_
      case hy24 =>
        intro w' hSw
        (try dsimp only at hSw)
        go_simp
        try (with_reducible rfl)
      try simp only [Act.put, List.getElem_toArray, List.getElem_cons_succ, List.getElem_cons_zero, List.setIfInBounds_toArray, List.set_cons_zero, List.set_cons_succ]
      refine wpAnyH_take (i := 26) (v := ?v25) rfl (by kernel_rfl) (by kernel_rfl) (by kernel_rfl) (fun _ _ _ h => h) (Or.inl ⟨by rfl, ?hy25⟩) (by assumption) ?_
      case hy25 =>
        intro w' hSw
        (try dsimp only at hSw)
        have q1 := (box_cells (Below.refl _ _) hSw.2.1).1
        go_simp
        try (with_reducible rfl)
      try simp only [Act.put, List.getElem_toArray, List.getElem_cons_succ, List.getElem_cons_zero, List.setIfInBounds_toArray, List.set_cons_zero, List.set_cons_succ]
      refine wpAnyH_take (i := 27) (v := ?v26) rfl (by kernel_rfl) (by kernel_rfl) (by kernel_rfl) (fun _ _ _ h => h) (Or.inl ⟨by rfl, ?hy26⟩) (by assumption) ?_
      case hy26 =>
        intro w' hSw
        (try dsimp only at hSw)
        go_simp
        try (with_reducible rfl)
      try simp only [Act.put, List.getElem_toArray, List.getElem_cons_succ, List.getElem_cons_zero, List.setIfInBounds_toArray, List.set_cons_zero, List.set_cons_succ]
      refine wpAnyH_take (i := 28) (v := ?v27) rfl (by kernel_rfl) (by kernel_rfl) (by kernel_rfl) (fun _ _ _ h => h) (Or.inl ⟨by rfl, ?hy27⟩) (by assumption) ?_
      case hy27 =>
        intro w' hSw
        (try dsimp only at hSw)
        have q1 := (box_cells (Below.refl _ _) hSw.2.2.1).1
        go_simp
        try (with_reducible rfl)
      try simp only [Act.put, List.getElem_toArray, List.getElem_cons_succ, List.getElem_cons_zero, List.setIfInBounds_toArray, List.set_cons_zero, List.set_cons_succ]
      refine wpAnyH_ready (rs := [4]) (by kernel_rfl) (by simp) ?_
      refine AllReadyH.cons rfl (fun K hK => ?_) AllReadyH.nil
      go_simp
      go_at_call 124
      with_reducible refine (C0.out _).mono ?_
      rintro e w' ⟨rfl, rfl⟩
      try go_simp
      refine hK.out _ _ ?hS28 (fun hHeld2 => ?_)
      case hS28 => first | with_reducible exact HS.out | with_reducible exact HSd.out | exact HSE.out
      clear hK K hHeld
      have hHeld := hHeld2
      clear hHeld2
      try simp only [Act.put, List.getElem_toArray, List.getElem_cons_succ, List.getElem_cons_zero, List.setIfInBounds_toArray, List.set_cons_zero, List.set_cons_succ]
      refine wpAnyH_ready (rs := [9]) (by kernel_rfl) (by simp) ?_
      refine AllReadyH.cons rfl (fun K hK => ?_) AllReadyH.nil
      go_simp
      go_at_call 124
      with_reducible refine (C1.out _).mono ?_
      rintro e w' ⟨rfl, rfl⟩
      try go_simp
      refine hK.out _ _ ?hS29 (fun hHeld2 => ?_)
      case hS29 => first | with_reducible exact HS.out | with_reducible exact HSd.out | exact HSE.out
      clear hK K hHeld
      have hHeld := hHeld2
      clear hHeld2
      try simp only [Act.put, List.getElem_toArray, List.getElem_cons_succ, List.getElem_cons_zero, List.setIfInBounds_toArray, List.set_cons_zero, List.set_cons_succ]
      refine wpAnyH_ready (rs := [24]) (by kernel_rfl) (by simp) ?_
      refine AllReadyH.cons rfl (fun K hK => ?_) AllReadyH.nil
      go_simp
      go_at_call 124
      with_reducible refine (C1.out _).mono ?_
      rintro e w' ⟨rfl, rfl⟩
      try go_simp
      refine hK.out _ _ ?hS30 (fun hHeld2 => ?_)
      case hS30 => first | with_reducible exact HS.out | with_reducible exact HSd.out | exact HSE.out
      clear hK K hHeld
      have hHeld := hHeld2
      clear hHeld2
      try simp only [Act.put, List.getElem_toArray, List.getElem_cons_succ, List.getElem_cons_zero, List.setIfInBounds_toArray, List.set_cons_zero, List.set_cons_succ]
      refine wpAnyH_ready (rs := [29]) (by kernel_rfl) (by simp) ?_
      refine AllReadyH.cons rfl (fun K hK => ?_) AllReadyH.nil
      go_simp
      go_at_call 124
      with_reducible refine (C0.out _).mono ?_
      rintro e w' ⟨rfl, rfl⟩
      try go_simp
      refine hK.out _ _ ?hS31 (fun hHeld2 => ?_)
      case hS31 => first | with_reducible exact HS.out | with_reducible exact HSd.out | exact HSE.out
      clear hK K hHeld
      have hHeld := hHeld2
      clear hHeld2
      try simp only [Act.put, List.getElem_toArray, List.getElem_cons_succ, List.getElem_cons_zero, List.setIfInBounds_toArray, List.set_cons_zero, List.set_cons_succ]
      refine wpAnyH_ready (rs := [30]) (by kernel_rfl) (by simp) ?_
      refine AllReadyH.cons rfl (fun K hK => ?_) AllReadyH.nil
      go_simp
      go_at_call 125
      with_reducible refine (C2.out _).mono ?_
      rintro e w' ⟨rfl, rfl⟩
      try go_simp
      refine hK.out _ _ ?hS32 (fun hHeld2 => ?_)
      case hS32 => first | with_reducible exact HS.out | with_reducible exact HSd.out | exact HSE.out
      clear hK K hHeld
      have hHeld := hHeld2
      clear hHeld2
      try simp only [Act.put, List.getElem_toArray, List.getElem_cons_succ, List.getElem_cons_zero, List.setIfInBounds_toArray, List.set_cons_zero, List.set_cons_succ]
      refine wpAnyH_take (i := 31) (v := ?v33) rfl (by kernel_rfl) (by kernel_rfl) (by kernel_rfl) (fun _ _ _ h => h) (Or.inl ⟨by rfl, ?hy33⟩) (by assumption) ?_
      case hy33 =>
        intro w' hSw
        (try dsimp only at hSw)
        go_simp
        try (with_reducible rfl)
      try simp only [Act.put, List.getElem_toArray, List.getElem_cons_succ, List.getElem_cons_zero, List.setIfInBounds_toArray, List.set_cons_zero, List.set_cons_succ]
      refine wpAnyH_ready (rs := [32]) (by kernel_rfl) (by simp) ?_
      refine AllReadyH.cons rfl (fun K hK => ?_) AllReadyH.nil
      go_simp
      skip
      try go_simp
      refine hK.out _ _ ?hS34 (fun hHeld2 => ?_)
      case hS34 => first | with_reducible exact HS.out | with_reducible exact HSd.out | exact HSE.out
      clear hK K hHeld
      have hHeld := hHeld2
      clear hHeld2
      try simp only [Act.put, List.getElem_toArray, List.getElem_cons_succ, List.getElem_cons_zero, List.setIfInBounds_toArray, List.set_cons_zero, List.set_cons_succ]
      refine wpAnyH_done (by kernel_rfl) ?_ _
      go_wp2_with fail
      have hz2 := setCell_block (i := 4) (v := .int .i64 c4) (setCell_block (i := 3) (v := .int .i64 (max a3 b3)) (setCell_block (i := 2) (v := .int .i64 (min a2 b2)) (setCell_block (i := 1) (v := .int .i64 c1) (setCell_block (i := 0) (v := .int .i64 c0) HR.out))))
      obtain ⟨f1, f2, f3⟩ := box_cells (Below.drew (Below.refl _ _)) hz2
      refine bodyPost_ret (v := .agg #[.int .i64 c0, .int .i64 c1, .int .i64 (min a2 b2), .int .i64 (max a3 b3), .int .i64 c4]) (by simp [results, Tryz.results59, go_sem, f1]) rfl ⟨by rw [HM.out], ?_⟩
      exact (((((HS.out.1.setCell (by simp; omega) _).setCell (by simp; omega) _).setCell (by simp; omega) _).setCell (by simp; omega) _).setCell (by simp; omega) _).drew
end

end Go.Proofs.YtfegielnmdppgaaGreat
