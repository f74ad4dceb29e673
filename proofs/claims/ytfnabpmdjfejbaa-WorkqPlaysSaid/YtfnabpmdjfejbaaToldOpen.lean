/- 'told': the queue tells just what the reference's has. -/
import Derived.Test.YtfnabpmdjfejbaaQTells
import Derived.Test.YtfnabpmdjfejbaaQDone
import Derived.Test.YtfnabpmdjfejbaaQRefG
import Derived.Test.YtfnabpmdjfejbaaRefRis
import Derived.Test.YtfnabpmdjfejbaaTold0
namespace Go.Proofs.Ytfnabpmdjfejbaa
set_option linter.unusedSimpArgs false
set_option linter.unusedVariables false
open Go.RowKit Go.Lib

set_option maxRecDepth 100000 in
set_option maxHeartbeats 4000000 in
theorem told_open (P : Nat → Prop) (g o : Nat) (B : Nat → Prop) (st : QSt) (x : RQ) (vl vb vd : Value) (w : World) (h : QIn w g o st B) (hx : RQAt P w vl vb vd x) (ht : Tells st x) (hs : st.small 100000) (hs' : x.small 100000) (ho : st.over = false) :
    Calls Try.prog 21 #[.pointer (some ⟨g, o, none⟩), .agg #[vl, vb, vd, .bool x.over]] w fun e w' => e = .returned (.bool true) ∧ Below w.heap.size w w' := by
  have HQ := Lib.hid (fun (W : World) (hW : Below w.heap.size w W) => (show QIn W g o st B from by obtain ⟨a, b, c, d, h⟩ := h; exact ⟨a, b, c, d, h.below hW⟩))
  have HX := Lib.hid (fun (W : World) (hW : Below w.heap.size w W) => hx.below hW)
  have HB := Lib.hid (fun p hp => kys_ok ((ht.busy p).1 hp))
  have HD := Lib.hid (fun p hp => kys_ok ((ht.dirty p).1 hp))
  have HS1 := Lib.hid (same_self ht.line.symm)
  have HS2 := Lib.hid (same_self (risL_congr ht.busy).symm)
  have HS3 := Lib.hid (same_self (risL_congr ht.dirty).symm)
  have e0 : x.line.length = st.front.length + st.back.length := by rw [ht.line]; simp [kys]
  have l1 : (kys (st.front.reverse ++ st.back)).length ≤ maxLen := by have := hs.l; simp only [maxLen]; simp [kys]; omega
  have l2 : x.line.length ≤ maxLen := by have := hs.l; simp only [maxLen]; omega
  have l3 : (risL (kys st.busy)).length ≤ maxLen := by have := hs.b; have := len_risL (kys st.busy); rw [kys_len] at this; simp only [maxLen]; omega
  have l4 : (risL x.busy).length ≤ maxLen := by have := hs'.b; have := len_risL x.busy; simp only [maxLen]; omega
  have l5 : (risL (kys st.dirty)).length ≤ maxLen := by have := hs.d; have := len_risL (kys st.dirty); rw [kys_len] at this; simp only [maxLen]; omega
  have l6 : (risL x.dirty).length ≤ maxLen := by have := hs'.d; have := len_risL x.dirty; simp only [maxLen]; omega
  have HL := Lib.hid hs
  have HL' := Lib.hid hs'
  have HO := Lib.hid (over_any g o B st · · (by have := hs.l; omega))
  rw [ho, Bool.false_and] at HO
  obtain ⟨Al, cl, rfl, _⟩ := id hx.l.1
  obtain ⟨Ab, cb, rfl, _⟩ := id hx.b.1
  obtain ⟨Ad, cd, rfl, _⟩ := id hx.d.1
  rw [ht.over, ho]
  clear h hx ht hs hs' ho e0
  go_enter Try.func21, Try.ntmps21
  go_wp2
  refine wp_region_held_drew (S := (fun W => (∀ j, W.cell? ⟨w.heap.size, j, none⟩ = (#[.slice Al x.line.length cl, .slice Ab x.busy.length cb, .slice Ad x.dirty.length cd, .bool false] : Array Value)[j]?) ∧ Below w.heap.size w W ∧ w.heap.size < W.heap.size)) (by kernel_rfl) ?hS (fun hHeld => ?_)
  case hS => first | assumption | exact drewA (startA w _ _) | exact startA w _ _ | exact keepA (by assumption) hb1 rfl | exact keepA (by assumption) hb2 rfl | exact keepA (by assumption) hb3 rfl | exact keepA (by assumption) hb4 rfl | exact keepA (by assumption) hb5 rfl | exact keepA (by assumption) hb6 rfl | exact keepA (by assumption) hb7 rfl | exact keepA (by assumption) hb8 rfl | exact keepA (by assumption) hb9 rfl
  refine wpAnyH_take (i := 0) (v := ?v0) rfl (by kernel_rfl) (by kernel_rfl) (by kernel_rfl) (fun _ _ _ h => h) (Or.inl ⟨by rfl, ?hy0⟩) (by assumption) ?_
  case hy0 =>
    intro w' hSw
    (try dsimp only at hSw)
    go_simp
    try (with_reducible rfl)
  try simp only [Act.put, List.getElem_toArray, List.getElem_cons_succ, List.getElem_cons_zero, List.setIfInBounds_toArray, List.set_cons_zero, List.set_cons_succ]
  refine wpAnyH_take (i := 2) (v := ?v2) rfl (by kernel_rfl) (by kernel_rfl) (by kernel_rfl) (fun _ _ _ h => h) (Or.inl ⟨by rfl, ?hy2⟩) (by assumption) ?_
  case hy2 =>
    intro w' hSw
    (try dsimp only at hSw)
    go_simp
    try (with_reducible rfl)
  try simp only [Act.put, List.getElem_toArray, List.getElem_cons_succ, List.getElem_cons_zero, List.setIfInBounds_toArray, List.set_cons_zero, List.set_cons_succ]
  refine wpAnyH_take (i := 3) (v := ?v3) rfl (by kernel_rfl) (by kernel_rfl) (by kernel_rfl) (fun _ _ _ h => h) (Or.inl ⟨by rfl, ?hy3⟩) (by assumption) ?_
  case hy3 =>
    intro w' hSw
    (try dsimp only at hSw)
    go_simp
    try (with_reducible rfl)
  try simp only [Act.put, List.getElem_toArray, List.getElem_cons_succ, List.getElem_cons_zero, List.setIfInBounds_toArray, List.set_cons_zero, List.set_cons_succ]
  refine wpAnyH_ready (rs := [1]) (by kernel_rfl) (by simp) ?_
  refine AllReadyH.cons rfl (fun K hK => ?_) AllReadyH.nil
  go_simp
  go_at_call 15; refine (waiting_any g o B st _ (HQ.out _ (balloc (Below.refl _ _) _).drew) (by have := HL.out.l; omega)).mono ?_; rintro e w1 ⟨v1, rfl, hr1, hb1⟩; have hB1 := bthen (balloc (Below.refl _ _) _).drew hb1; have HK1 := Lib.hid (keysIn_own hr1); obtain ⟨A1, c1, rfl⟩ := own_form hr1; clear hr1
  try go_simp
  refine hK.out _ _ ?hS (fun hHeld2 => ?_)
  case hS => first | assumption | exact drewA (startA w _ _) | exact startA w _ _ | exact keepA (by assumption) hb1 rfl | exact keepA (by assumption) hb2 rfl | exact keepA (by assumption) hb3 rfl | exact keepA (by assumption) hb4 rfl | exact keepA (by assumption) hb5 rfl | exact keepA (by assumption) hb6 rfl | exact keepA (by assumption) hb7 rfl | exact keepA (by assumption) hb8 rfl | exact keepA (by assumption) hb9 rfl
  clear hK K hHeld
  have hHeld := hHeld2
  clear hHeld2
  try simp only [Act.put, List.getElem_toArray, List.getElem_cons_succ, List.getElem_cons_zero, List.setIfInBounds_toArray, List.set_cons_zero, List.set_cons_succ]
  refine wpAnyH_ready (rs := [4]) (by kernel_rfl) (by simp) ?_
  refine AllReadyH.cons rfl (fun K hK => ?_) AllReadyH.nil
  go_simp
  go_at_call 54; refine (same_any _ _ _ _ _ HK1.out (HX.out _ hB1).l.keys l1 l2).mono ?_; rw [HS1.out]; rintro e w2 ⟨rfl, hb2⟩; have hB2 := bthen hB1 hb2; clear HK1
  try go_simp
  refine hK.out _ _ ?hS (fun hHeld2 => ?_)
  case hS => first | assumption | exact drewA (startA w _ _) | exact startA w _ _ | exact keepA (by assumption) hb1 rfl | exact keepA (by assumption) hb2 rfl | exact keepA (by assumption) hb3 rfl | exact keepA (by assumption) hb4 rfl | exact keepA (by assumption) hb5 rfl | exact keepA (by assumption) hb6 rfl | exact keepA (by assumption) hb7 rfl | exact keepA (by assumption) hb8 rfl | exact keepA (by assumption) hb9 rfl
  clear hK K hHeld
  have hHeld := hHeld2
  clear hHeld2
  try simp only [Act.put, List.getElem_toArray, List.getElem_cons_succ, List.getElem_cons_zero, List.setIfInBounds_toArray, List.set_cons_zero, List.set_cons_succ]
  refine wpAnyH_take (i := 5) (v := ?v5) rfl (by kernel_rfl) (by kernel_rfl) (by kernel_rfl) (fun _ _ _ h => h) (Or.inl ⟨by rfl, ?hy5⟩) (by assumption) ?_
  case hy5 =>
    intro w' hSw
    (try dsimp only at hSw)
    go_simp
    try (with_reducible rfl)
  try simp only [Act.put, List.getElem_toArray, List.getElem_cons_succ, List.getElem_cons_zero, List.setIfInBounds_toArray, List.set_cons_zero, List.set_cons_succ]
  refine wpAnyH_take (i := 6) (v := ?v6) rfl (by kernel_rfl) (by kernel_rfl) (by kernel_rfl) (fun _ _ _ h => h) (Or.inl ⟨by rfl, ?hy6⟩) (by assumption) ?_
  case hy6 =>
    intro w' hSw
    (try dsimp only at hSw)
    go_simp
    try (with_reducible rfl)
  try simp only [Act.put, List.getElem_toArray, List.getElem_cons_succ, List.getElem_cons_zero, List.setIfInBounds_toArray, List.set_cons_zero, List.set_cons_succ]
  refine wpAnyH_take (i := 8) (v := ?v8) rfl (by kernel_rfl) (by kernel_rfl) (by kernel_rfl) (fun _ _ _ h => h) (Or.inl ⟨by rfl, ?hy8⟩) (by assumption) ?_
  case hy8 =>
    intro w' hSw
    (try dsimp only at hSw)
    go_simp
    try (with_reducible rfl)
  try simp only [Act.put, List.getElem_toArray, List.getElem_cons_succ, List.getElem_cons_zero, List.setIfInBounds_toArray, List.set_cons_zero, List.set_cons_succ]
  refine wpAnyH_take (i := 9) (v := ?v9) rfl (by kernel_rfl) (by kernel_rfl) (by kernel_rfl) (fun _ _ _ h => h) (Or.inl ⟨by rfl, ?hy9⟩) (by assumption) ?_
  case hy9 =>
    intro w' hSw
    (try dsimp only at hSw)
    go_simp
    try (with_reducible rfl)
  try simp only [Act.put, List.getElem_toArray, List.getElem_cons_succ, List.getElem_cons_zero, List.setIfInBounds_toArray, List.set_cons_zero, List.set_cons_succ]
  refine wpAnyH_ready (rs := [7]) (by kernel_rfl) (by simp) ?_
  refine AllReadyH.cons rfl (fun K hK => ?_) AllReadyH.nil
  go_simp
  go_at_call 16; refine (busy_any g o B st _ (HQ.out _ hB2) (by have := HL.out.b; omega)).mono ?_; rintro e w3 ⟨v3, rfl, hr3, hb3⟩; have hB3 := bthen hB2 hb3; have HR3 := Lib.hid (keysIn_own hr3); obtain ⟨A3, c3, rfl⟩ := own_form hr3; clear hr3
  try go_simp
  refine hK.out _ _ ?hS (fun hHeld2 => ?_)
  case hS => first | assumption | exact drewA (startA w _ _) | exact startA w _ _ | exact keepA (by assumption) hb1 rfl | exact keepA (by assumption) hb2 rfl | exact keepA (by assumption) hb3 rfl | exact keepA (by assumption) hb4 rfl | exact keepA (by assumption) hb5 rfl | exact keepA (by assumption) hb6 rfl | exact keepA (by assumption) hb7 rfl | exact keepA (by assumption) hb8 rfl | exact keepA (by assumption) hb9 rfl
  clear hK K hHeld
  have hHeld := hHeld2
  clear hHeld2
  try simp only [Act.put, List.getElem_toArray, List.getElem_cons_succ, List.getElem_cons_zero, List.setIfInBounds_toArray, List.set_cons_zero, List.set_cons_succ]
  refine wpAnyH_ready (rs := [10]) (by kernel_rfl) (by simp) ?_
  refine AllReadyH.cons rfl (fun K hK => ?_) AllReadyH.nil
  go_simp
  go_at_call 49; refine (refRising_any _ _ _ (HX.out _ hB3).b.keys HB.out (by have := HL'.out.b; omega)).mono ?_; rintro e w4 ⟨v4, rfl, hr4, hb4⟩; have hB4 := bthen hB3 hb4; have HK4 := Lib.hid (KeysIn.own hr4); have HK3 := Lib.hid (HR3.out.below hb4); obtain ⟨A4, c4, rfl⟩ := own_form hr4; clear hr4 HR3
  try go_simp
  refine hK.out _ _ ?hS (fun hHeld2 => ?_)
  case hS => first | assumption | exact drewA (startA w _ _) | exact startA w _ _ | exact keepA (by assumption) hb1 rfl | exact keepA (by assumption) hb2 rfl | exact keepA (by assumption) hb3 rfl | exact keepA (by assumption) hb4 rfl | exact keepA (by assumption) hb5 rfl | exact keepA (by assumption) hb6 rfl | exact keepA (by assumption) hb7 rfl | exact keepA (by assumption) hb8 rfl | exact keepA (by assumption) hb9 rfl
  clear hK K hHeld
  have hHeld := hHeld2
  clear hHeld2
  try simp only [Act.put, List.getElem_toArray, List.getElem_cons_succ, List.getElem_cons_zero, List.setIfInBounds_toArray, List.set_cons_zero, List.set_cons_succ]
  refine wpAnyH_ready (rs := [11]) (by kernel_rfl) (by simp) ?_
  refine AllReadyH.cons rfl (fun K hK => ?_) AllReadyH.nil
  go_simp
  go_at_call 54; refine (same_any _ _ _ _ _ HK3.out HK4.out l3 l4).mono ?_; rw [HS2.out]; rintro e w5 ⟨rfl, hb5⟩; have hB5 := bthen hB4 hb5; clear HK3 HK4
  try go_simp
  refine hK.out _ _ ?hS (fun hHeld2 => ?_)
  case hS => first | assumption | exact drewA (startA w _ _) | exact startA w _ _ | exact keepA (by assumption) hb1 rfl | exact keepA (by assumption) hb2 rfl | exact keepA (by assumption) hb3 rfl | exact keepA (by assumption) hb4 rfl | exact keepA (by assumption) hb5 rfl | exact keepA (by assumption) hb6 rfl | exact keepA (by assumption) hb7 rfl | exact keepA (by assumption) hb8 rfl | exact keepA (by assumption) hb9 rfl
  clear hK K hHeld
  have hHeld := hHeld2
  clear hHeld2
  try simp only [Act.put, List.getElem_toArray, List.getElem_cons_succ, List.getElem_cons_zero, List.setIfInBounds_toArray, List.set_cons_zero, List.set_cons_succ]
  refine wpAnyH_take (i := 12) (v := ?v12) rfl (by kernel_rfl) (by kernel_rfl) (by kernel_rfl) (fun _ _ _ h => h) (Or.inl ⟨by rfl, ?hy12⟩) (by assumption) ?_
  case hy12 =>
    intro w' hSw
    (try dsimp only at hSw)
    go_simp
    try (with_reducible rfl)
  try simp only [Act.put, List.getElem_toArray, List.getElem_cons_succ, List.getElem_cons_zero, List.setIfInBounds_toArray, List.set_cons_zero, List.set_cons_succ]
  refine wpAnyH_take (i := 13) (v := ?v13) rfl (by kernel_rfl) (by kernel_rfl) (by kernel_rfl) (fun _ _ _ h => h) (Or.inl ⟨by rfl, ?hy13⟩) (by assumption) ?_
  case hy13 =>
    intro w' hSw
    (try dsimp only at hSw)
    go_simp
    try (with_reducible rfl)
  try simp only [Act.put, List.getElem_toArray, List.getElem_cons_succ, List.getElem_cons_zero, List.setIfInBounds_toArray, List.set_cons_zero, List.set_cons_succ]
  refine wpAnyH_take (i := 14) (v := ?v14) rfl (by kernel_rfl) (by kernel_rfl) (by kernel_rfl) (fun _ _ _ h => h) (Or.inl ⟨by rfl, ?hy14⟩) (by assumption) ?_
  case hy14 =>
    intro w' hSw
    (try dsimp only at hSw)
    go_simp
    try (with_reducible rfl)
  try simp only [Act.put, List.getElem_toArray, List.getElem_cons_succ, List.getElem_cons_zero, List.setIfInBounds_toArray, List.set_cons_zero, List.set_cons_succ]
  refine wpAnyH_take (i := 16) (v := ?v16) rfl (by kernel_rfl) (by kernel_rfl) (by kernel_rfl) (fun _ _ _ h => h) (Or.inl ⟨by rfl, ?hy16⟩) (by assumption) ?_
  case hy16 =>
    intro w' hSw
    (try dsimp only at hSw)
    go_simp
    try (with_reducible rfl)
  try simp only [Act.put, List.getElem_toArray, List.getElem_cons_succ, List.getElem_cons_zero, List.setIfInBounds_toArray, List.set_cons_zero, List.set_cons_succ]
  refine wpAnyH_take (i := 17) (v := ?v17) rfl (by kernel_rfl) (by kernel_rfl) (by kernel_rfl) (fun _ _ _ h => h) (Or.inl ⟨by rfl, ?hy17⟩) (by assumption) ?_
  case hy17 =>
    intro w' hSw
    (try dsimp only at hSw)
    go_simp
    try (with_reducible rfl)
  try simp only [Act.put, List.getElem_toArray, List.getElem_cons_succ, List.getElem_cons_zero, List.setIfInBounds_toArray, List.set_cons_zero, List.set_cons_succ]
  refine wpAnyH_ready (rs := [15]) (by kernel_rfl) (by simp) ?_
  refine AllReadyH.cons rfl (fun K hK => ?_) AllReadyH.nil
  go_simp
  go_at_call 17; refine (dirty_any g o B st _ (HQ.out _ hB5) (by have := HL.out.d; omega)).mono ?_; rintro e w6 ⟨v6, rfl, hr6, hb6⟩; have hB6 := bthen hB5 hb6; have HR6 := Lib.hid (keysIn_own hr6); obtain ⟨A6, c6, rfl⟩ := own_form hr6; clear hr6
  try go_simp
  refine hK.out _ _ ?hS (fun hHeld2 => ?_)
  case hS => first | assumption | exact drewA (startA w _ _) | exact startA w _ _ | exact keepA (by assumption) hb1 rfl | exact keepA (by assumption) hb2 rfl | exact keepA (by assumption) hb3 rfl | exact keepA (by assumption) hb4 rfl | exact keepA (by assumption) hb5 rfl | exact keepA (by assumption) hb6 rfl | exact keepA (by assumption) hb7 rfl | exact keepA (by assumption) hb8 rfl | exact keepA (by assumption) hb9 rfl
  clear hK K hHeld
  have hHeld := hHeld2
  clear hHeld2
  try simp only [Act.put, List.getElem_toArray, List.getElem_cons_succ, List.getElem_cons_zero, List.setIfInBounds_toArray, List.set_cons_zero, List.set_cons_succ]
  refine wpAnyH_ready (rs := [18]) (by kernel_rfl) (by simp) ?_
  refine AllReadyH.cons rfl (fun K hK => ?_) AllReadyH.nil
  go_simp
  go_at_call 49; refine (refRising_any _ _ _ (HX.out _ hB6).d.keys HD.out (by have := HL'.out.d; omega)).mono ?_; rintro e w7 ⟨v7, rfl, hr7, hb7⟩; have hB7 := bthen hB6 hb7; have HK7 := Lib.hid (KeysIn.own hr7); have HK6 := Lib.hid (HR6.out.below hb7); obtain ⟨A7, c7, rfl⟩ := own_form hr7; clear hr7 HR6
  try go_simp
  refine hK.out _ _ ?hS (fun hHeld2 => ?_)
  case hS => first | assumption | exact drewA (startA w _ _) | exact startA w _ _ | exact keepA (by assumption) hb1 rfl | exact keepA (by assumption) hb2 rfl | exact keepA (by assumption) hb3 rfl | exact keepA (by assumption) hb4 rfl | exact keepA (by assumption) hb5 rfl | exact keepA (by assumption) hb6 rfl | exact keepA (by assumption) hb7 rfl | exact keepA (by assumption) hb8 rfl | exact keepA (by assumption) hb9 rfl
  clear hK K hHeld
  have hHeld := hHeld2
  clear hHeld2
  try simp only [Act.put, List.getElem_toArray, List.getElem_cons_succ, List.getElem_cons_zero, List.setIfInBounds_toArray, List.set_cons_zero, List.set_cons_succ]
  refine wpAnyH_ready (rs := [19]) (by kernel_rfl) (by simp) ?_
  refine AllReadyH.cons rfl (fun K hK => ?_) AllReadyH.nil
  go_simp
  go_at_call 54; refine (same_any _ _ _ _ _ HK6.out HK7.out l5 l6).mono ?_; rw [HS3.out]; rintro e w8 ⟨rfl, hb8⟩; have hB8 := bthen hB7 hb8; clear HK6 HK7
  try go_simp
  refine hK.out _ _ ?hS (fun hHeld2 => ?_)
  case hS => first | assumption | exact drewA (startA w _ _) | exact startA w _ _ | exact keepA (by assumption) hb1 rfl | exact keepA (by assumption) hb2 rfl | exact keepA (by assumption) hb3 rfl | exact keepA (by assumption) hb4 rfl | exact keepA (by assumption) hb5 rfl | exact keepA (by assumption) hb6 rfl | exact keepA (by assumption) hb7 rfl | exact keepA (by assumption) hb8 rfl | exact keepA (by assumption) hb9 rfl
  clear hK K hHeld
  have hHeld := hHeld2
  clear hHeld2
  try simp only [Act.put, List.getElem_toArray, List.getElem_cons_succ, List.getElem_cons_zero, List.setIfInBounds_toArray, List.set_cons_zero, List.set_cons_succ]
  refine wpAnyH_take (i := 20) (v := ?v20) rfl (by kernel_rfl) (by kernel_rfl) (by kernel_rfl) (fun _ _ _ h => h) (Or.inl ⟨by rfl, ?hy20⟩) (by assumption) ?_
  case hy20 =>
    intro w' hSw
    (try dsimp only at hSw)
    go_simp
    try (with_reducible rfl)
  try simp only [Act.put, List.getElem_toArray, List.getElem_cons_succ, List.getElem_cons_zero, List.setIfInBounds_toArray, List.set_cons_zero, List.set_cons_succ]
  refine wpAnyH_take (i := 21) (v := ?v21) rfl (by kernel_rfl) (by kernel_rfl) (by kernel_rfl) (fun _ _ _ h => h) (Or.inl ⟨by rfl, ?hy21⟩) (by assumption) ?_
  case hy21 =>
    intro w' hSw
    (try dsimp only at hSw)
    go_simp
    try (with_reducible rfl)
  try simp only [Act.put, List.getElem_toArray, List.getElem_cons_succ, List.getElem_cons_zero, List.setIfInBounds_toArray, List.set_cons_zero, List.set_cons_succ]
  refine wpAnyH_take (i := 22) (v := ?v22) rfl (by kernel_rfl) (by kernel_rfl) (by kernel_rfl) (fun _ _ _ h => h) (Or.inl ⟨by rfl, ?hy22⟩) (by assumption) ?_
  case hy22 =>
    intro w' hSw
    (try dsimp only at hSw)
    go_simp
    try (with_reducible rfl)
  try simp only [Act.put, List.getElem_toArray, List.getElem_cons_succ, List.getElem_cons_zero, List.setIfInBounds_toArray, List.set_cons_zero, List.set_cons_succ]
  refine wpAnyH_take (i := 24) (v := ?v24) rfl (by kernel_rfl) (by kernel_rfl) (by kernel_rfl) (fun _ _ _ h => h) (Or.inl ⟨by rfl, ?hy24⟩) (by assumption) ?_
  case hy24 =>
    intro w' hSw
    (try dsimp only at hSw)
    go_simp
    try (with_reducible rfl)
  try simp only [Act.put, List.getElem_toArray, List.getElem_cons_succ, List.getElem_cons_zero, List.setIfInBounds_toArray, List.set_cons_zero, List.set_cons_succ]
  refine wpAnyH_take (i := 25) (v := ?v25) rfl (by kernel_rfl) (by kernel_rfl) (by kernel_rfl) (fun _ _ _ h => h) (Or.inl ⟨by rfl, ?hy25⟩) (by assumption) ?_
  case hy25 =>
    intro w' hSw
    (try dsimp only at hSw)
    go_simp
    try (with_reducible rfl)
  try simp only [Act.put, List.getElem_toArray, List.getElem_cons_succ, List.getElem_cons_zero, List.setIfInBounds_toArray, List.set_cons_zero, List.set_cons_succ]
  refine wpAnyH_ready (rs := [23]) (by kernel_rfl) (by simp) ?_
  refine AllReadyH.cons rfl (fun K hK => ?_) AllReadyH.nil
  go_simp
  go_at_call 22; refine (HO.out _ (HQ.out _ hB8)).mono ?_; rintro e w9 ⟨rfl, hb9⟩; have hB9 := bthen hB8 hb9
  try go_simp
  refine hK.out _ _ ?hS (fun hHeld2 => ?_)
  case hS => first | assumption | exact drewA (startA w _ _) | exact startA w _ _ | exact keepA (by assumption) hb1 rfl | exact keepA (by assumption) hb2 rfl | exact keepA (by assumption) hb3 rfl | exact keepA (by assumption) hb4 rfl | exact keepA (by assumption) hb5 rfl | exact keepA (by assumption) hb6 rfl | exact keepA (by assumption) hb7 rfl | exact keepA (by assumption) hb8 rfl | exact keepA (by assumption) hb9 rfl
  clear hK K hHeld
  have hHeld := hHeld2
  clear hHeld2
  try simp only [Act.put, List.getElem_toArray, List.getElem_cons_succ, List.getElem_cons_zero, List.setIfInBounds_toArray, List.set_cons_zero, List.set_cons_succ]
  refine wpAnyH_take (i := 26) (v := ?v26) rfl (by kernel_rfl) (by kernel_rfl) (by kernel_rfl) (fun _ _ _ h => h) (Or.inl ⟨by rfl, ?hy26⟩) (by assumption) ?_
  case hy26 =>
    intro w' hSw
    (try dsimp only at hSw)
    go_simp
    try (with_reducible rfl)
  try simp only [Act.put, List.getElem_toArray, List.getElem_cons_succ, List.getElem_cons_zero, List.setIfInBounds_toArray, List.set_cons_zero, List.set_cons_succ]
  refine wpAnyH_take (i := 27) (v := undef) rfl (by kernel_rfl) (by kernel_rfl) (by kernel_rfl) (fun _ _ _ h => h) (Or.inr ⟨by go_simp, rfl⟩) (by assumption) ?_
  try simp only [Act.put, List.getElem_toArray, List.getElem_cons_succ, List.getElem_cons_zero, List.setIfInBounds_toArray, List.set_cons_zero, List.set_cons_succ]
  refine wpAnyH_take (i := 28) (v := undef) rfl (by kernel_rfl) (by kernel_rfl) (by kernel_rfl) (fun _ _ _ h => h) (Or.inr ⟨by go_simp, rfl⟩) (by assumption) ?_
  try simp only [Act.put, List.getElem_toArray, List.getElem_cons_succ, List.getElem_cons_zero, List.setIfInBounds_toArray, List.set_cons_zero, List.set_cons_succ]
  refine wpAnyH_take (i := 29) (v := undef) rfl (by kernel_rfl) (by kernel_rfl) (by kernel_rfl) (fun _ _ _ h => h) (Or.inr ⟨by go_simp, rfl⟩) (by assumption) ?_
  try simp only [Act.put, List.getElem_toArray, List.getElem_cons_succ, List.getElem_cons_zero, List.setIfInBounds_toArray, List.set_cons_zero, List.set_cons_succ]
  refine wpAnyH_take (i := 30) (v := undef) rfl (by kernel_rfl) (by kernel_rfl) (by kernel_rfl) (fun _ _ _ h => h) (Or.inr ⟨by go_simp, rfl⟩) (by assumption) ?_
  try simp only [Act.put, List.getElem_toArray, List.getElem_cons_succ, List.getElem_cons_zero, List.setIfInBounds_toArray, List.set_cons_zero, List.set_cons_succ]
  refine wpAnyH_take (i := 31) (v := ?v31) rfl (by kernel_rfl) (by kernel_rfl) (by kernel_rfl) (fun _ _ _ h => h) (Or.inl ⟨by rfl, ?hy31⟩) (by assumption) ?_
  case hy31 =>
    intro w' hSw
    (try dsimp only at hSw)
    go_simp
    try (with_reducible rfl)
  try simp only [Act.put, List.getElem_toArray, List.getElem_cons_succ, List.getElem_cons_zero, List.setIfInBounds_toArray, List.set_cons_zero, List.set_cons_succ]
  refine wpAnyH_take (i := 32) (v := ?v32) rfl (by kernel_rfl) (by kernel_rfl) (by kernel_rfl) (fun _ _ _ h => h) (Or.inl ⟨by rfl, ?hy32⟩) (by assumption) ?_
  case hy32 =>
    intro w' hSw
    (try dsimp only at hSw)
    go_simp
    try (with_reducible rfl)
  try simp only [Act.put, List.getElem_toArray, List.getElem_cons_succ, List.getElem_cons_zero, List.setIfInBounds_toArray, List.set_cons_zero, List.set_cons_succ]
  refine wpAnyH_take (i := 33) (v := ?v33) rfl (by kernel_rfl) (by kernel_rfl) (by kernel_rfl) (fun _ _ _ h => h) (Or.inl ⟨by rfl, ?hy33⟩) (by assumption) ?_
  case hy33 =>
    intro w' hSw
    (try dsimp only at hSw)
    go_simp
    try (with_reducible rfl)
  try simp only [Act.put, List.getElem_toArray, List.getElem_cons_succ, List.getElem_cons_zero, List.setIfInBounds_toArray, List.set_cons_zero, List.set_cons_succ]
  refine wpAnyH_take (i := 34) (v := ?v34) rfl (by kernel_rfl) (by kernel_rfl) (by kernel_rfl) (fun _ _ _ h => h) (Or.inl ⟨by rfl, ?hy34⟩) (by assumption) ?_
  case hy34 =>
    intro w' hSw
    (try dsimp only at hSw)
    go_simp
    try (with_reducible rfl)
  try simp only [Act.put, List.getElem_toArray, List.getElem_cons_succ, List.getElem_cons_zero, List.setIfInBounds_toArray, List.set_cons_zero, List.set_cons_succ]
  refine wpAnyH_done (by kernel_rfl) ?_ _
  go_wp2
  go_ret
  exact ⟨rfl, hB9⟩

end Go.Proofs.Ytfnabpmdjfejbaa
