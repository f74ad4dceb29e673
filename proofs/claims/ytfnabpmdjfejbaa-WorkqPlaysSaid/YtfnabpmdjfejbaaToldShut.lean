/- 'told': the queue tells just what the reference's has. -/
import Derived.Test.YtfnabpmdjfejbaaQTells
import Derived.Test.YtfnabpmdjfejbaaQDone
import Derived.Test.YtfnabpmdjfejbaaQRefG
import Derived.Test.YtfnabpmdjfejbaaRefRis
import Derived.Test.YtfnabpmdjfejbaaTold0
namespace Go.Proofs.Ytfnabpmdjfejbaa
set_option linter.unusedSimpArgs false
set_option linter.unusedVariables false
open Go.RowKit Go.Lib

set_option maxRecDepth 100000 in
set_option maxHeartbeats 4000000 in
theorem told_empty (P : Nat → Prop) (g o : Nat) (B : Nat → Prop) (st : QSt) (x : RQ) (vl vb vd : Value) (w : World) (h : QIn w g o st B) (hx : RQAt P w vl vb vd x) (ht : Tells st x) (hs : st.small 100000) (hs' : x.small 100000) (ho : st.over = true) (hz : st.front.length + st.back.length = 0) :
    Calls Try.prog 21 #[.pointer (some ⟨g, o, none⟩), .agg #[vl, vb, vd, .bool x.over]] w fun e w' => e = .returned (.bool true) ∧ Below w.heap.size w w' := by
  have HQ := Lib.hid (fun (W : World) (hW : Below w.heap.size w W) => (show QIn W g o st B from by obtain ⟨a, b, c, d, h⟩ := h; exact ⟨a, b, c, d, h.below hW⟩))
  have HX := Lib.hid (fun (W : World) (hW : Below w.heap.size w W) => hx.below hW)
  have HB := Lib.hid (fun p hp => kys_ok ((ht.busy p).1 hp))
  have HD := Lib.hid (fun p hp => kys_ok ((ht.dirty p).1 hp))
  have HS1 := Lib.hid (same_self ht.line.symm)
  have HS2 := Lib.hid (same_self (risL_congr ht.busy).symm)
  have HS3 := Lib.hid (same_self (risL_congr ht.dirty).symm)
  have e0 : x.line.length = st.front.length + st.back.length := by rw [ht.line]; simp [kys]
  have l1 : (kys (st.front.reverse ++ st.back)).length ≤ maxLen := by have := hs.l; simp only [maxLen]; simp [kys]; omega
  have l2 : x.line.length ≤ maxLen := by have := hs.l; simp only [maxLen]; omega
  have l3 : (risL (kys st.busy)).length ≤ maxLen := by have := hs.b; have := len_risL (kys st.busy); rw [kys_len] at this; simp only [maxLen]; omega
  have l4 : (risL x.busy).length ≤ maxLen := by have := hs'.b; have := len_risL x.busy; simp only [maxLen]; omega
  have l5 : (risL (kys st.dirty)).length ≤ maxLen := by have := hs.d; have := len_risL (kys st.dirty); rw [kys_len] at this; simp only [maxLen]; omega
  have l6 : (risL x.dirty).length ≤ maxLen := by have := hs'.d; have := len_risL x.dirty; simp only [maxLen]; omega
  have HL := Lib.hid hs
  have HL' := Lib.hid hs'
  have HO := Lib.hid (over_any g o B st · · (by have := hs.l; omega))
  rw [ho, Bool.true_and, decide_eq_true hz] at HO
  obtain ⟨Al, cl, rfl, _⟩ := id hx.l.1
  obtain ⟨Ab, cb, rfl, _⟩ := id hx.b.1
  obtain ⟨Ad, cd, rfl, _⟩ := id hx.d.1
  rw [ht.over, ho]
  have e1 : x.line.length = 0 := by omega
  have E1 := Lib.hid e1
  rw [e1]
  rw [e1] at HX
  clear h hx ht hs hs' ho e0 hz
  go_enter Try.func21, Try.ntmps21
  go_wp2
  go_region_held3 (fun W => (∀ j, W.cell? ⟨w.heap.size, j, none⟩ = (#[.slice Al 0 cl, .slice Ab x.busy.length cb, .slice Ad x.dirty.length cd, .bool true] : Array Value)[j]?) ∧ Below w.heap.size w W ∧ w.heap.size < W.heap.size)
    (first | assumption | exact drewA (startA w _ _) | exact startA w _ _ | exact keepA (by assumption) hb1 rfl | exact keepA (by assumption) hb2 rfl | exact keepA (by assumption) hb3 rfl | exact keepA (by assumption) hb4 rfl | exact keepA (by assumption) hb5 rfl | exact keepA (by assumption) hb6 rfl | exact keepA (by assumption) hb7 rfl | exact keepA (by assumption) hb8 rfl | exact keepA (by assumption) hb9 rfl)
    (first
      | (go_at_call 15; refine (waiting_any g o B st _ (HQ.out _ (balloc (Below.refl _ _) _).drew) (by have := HL.out.l; omega)).mono ?_; rintro e w1 ⟨v1, rfl, hr1, hb1⟩; have hB1 := bthen (balloc (Below.refl _ _) _).drew hb1; have HK1 := Lib.hid (keysIn_own hr1); obtain ⟨A1, c1, rfl⟩ := own_form hr1; clear hr1)
      | (go_at_call 54; refine (same_any _ _ _ _ _ HK6.out HK7.out l5 l6).mono ?_; rw [HS3.out]; rintro e w8 ⟨rfl, hb8⟩; have hB8 := bthen hB7 hb8; clear HK6 HK7)
      | (go_at_call 54; refine (same_any _ _ _ _ _ HK3.out HK4.out l3 l4).mono ?_; rw [HS2.out]; rintro e w5 ⟨rfl, hb5⟩; have hB5 := bthen hB4 hb5; clear HK3 HK4)
      | (go_at_call 54; refine (same_any _ _ _ _ _ HK1.out (HX.out _ hB1).l.keys l1 l2).mono ?_; rw [HS1.out]; rintro e w2 ⟨rfl, hb2⟩; have hB2 := bthen hB1 hb2; clear HK1)
      | (go_at_call 16; refine (busy_any g o B st _ (HQ.out _ hB2) (by have := HL.out.b; omega)).mono ?_; rintro e w3 ⟨v3, rfl, hr3, hb3⟩; have hB3 := bthen hB2 hb3; have HR3 := Lib.hid (keysIn_own hr3); obtain ⟨A3, c3, rfl⟩ := own_form hr3; clear hr3)
      | (go_at_call 49; refine (refRising_any _ _ _ (HX.out _ hB6).d.keys HD.out (by have := HL'.out.d; omega)).mono ?_; rintro e w7 ⟨v7, rfl, hr7, hb7⟩; have hB7 := bthen hB6 hb7; have HK7 := Lib.hid (KeysIn.own hr7); have HK6 := Lib.hid (HR6.out.below hb7); obtain ⟨A7, c7, rfl⟩ := own_form hr7; clear hr7 HR6)
      | (go_at_call 49; refine (refRising_any _ _ _ (HX.out _ hB3).b.keys HB.out (by have := HL'.out.b; omega)).mono ?_; rintro e w4 ⟨v4, rfl, hr4, hb4⟩; have hB4 := bthen hB3 hb4; have HK4 := Lib.hid (KeysIn.own hr4); have HK3 := Lib.hid (HR3.out.below hb4); obtain ⟨A4, c4, rfl⟩ := own_form hr4; clear hr4 HR3)
      | (go_at_call 17; refine (dirty_any g o B st _ (HQ.out _ hB5) (by have := HL.out.d; omega)).mono ?_; rintro e w6 ⟨v6, rfl, hr6, hb6⟩; have hB6 := bthen hB5 hb6; have HR6 := Lib.hid (keysIn_own hr6); obtain ⟨A6, c6, rfl⟩ := own_form hr6; clear hr6)
      | (go_at_call 22; refine (HO.out _ (HQ.out _ hB8)).mono ?_; rintro e w9 ⟨rfl, hb9⟩; have hB9 := bthen hB8 hb9))
  all_goals go_wp2
  all_goals go_ret
  all_goals exact ⟨rfl, hB9⟩

set_option maxRecDepth 100000 in
set_option maxHeartbeats 4000000 in
theorem told_shut (P : Nat → Prop) (g o : Nat) (B : Nat → Prop) (st : QSt) (x : RQ) (vl vb vd : Value) (w : World) (h : QIn w g o st B) (hx : RQAt P w vl vb vd x) (ht : Tells st x) (hs : st.small 100000) (hs' : x.small 100000) (ho : st.over = true) (hz : st.front.length + st.back.length ≠ 0) :
    Calls Try.prog 21 #[.pointer (some ⟨g, o, none⟩), .agg #[vl, vb, vd, .bool x.over]] w fun e w' => e = .returned (.bool true) ∧ Below w.heap.size w w' := by
  have HQ := Lib.hid (fun (W : World) (hW : Below w.heap.size w W) => (show QIn W g o st B from by obtain ⟨a, b, c, d, h⟩ := h; exact ⟨a, b, c, d, h.below hW⟩))
  have HX := Lib.hid (fun (W : World) (hW : Below w.heap.size w W) => hx.below hW)
  have HB := Lib.hid (fun p hp => kys_ok ((ht.busy p).1 hp))
  have HD := Lib.hid (fun p hp => kys_ok ((ht.dirty p).1 hp))
  have HS1 := Lib.hid (same_self ht.line.symm)
  have HS2 := Lib.hid (same_self (risL_congr ht.busy).symm)
  have HS3 := Lib.hid (same_self (risL_congr ht.dirty).symm)
  have e0 : x.line.length = st.front.length + st.back.length := by rw [ht.line]; simp [kys]
  have q0 : ((x.line.length : Int) == 0) = false := by rw [beq_eq_false_iff_ne]; omega
  have l1 : (kys (st.front.reverse ++ st.back)).length ≤ maxLen := by have := hs.l; simp only [maxLen]; simp [kys]; omega
  have l2 : x.line.length ≤ maxLen := by have := hs.l; simp only [maxLen]; omega
  have l3 : (risL (kys st.busy)).length ≤ maxLen := by have := hs.b; have := len_risL (kys st.busy); rw [kys_len] at this; simp only [maxLen]; omega
  have l4 : (risL x.busy).length ≤ maxLen := by have := hs'.b; have := len_risL x.busy; simp only [maxLen]; omega
  have l5 : (risL (kys st.dirty)).length ≤ maxLen := by have := hs.d; have := len_risL (kys st.dirty); rw [kys_len] at this; simp only [maxLen]; omega
  have l6 : (risL x.dirty).length ≤ maxLen := by have := hs'.d; have := len_risL x.dirty; simp only [maxLen]; omega
  have HL := Lib.hid hs
  have HL' := Lib.hid hs'
  have HO := Lib.hid (over_any g o B st · · (by have := hs.l; omega))
  rw [ho, Bool.true_and, decide_eq_false hz] at HO
  obtain ⟨Al, cl, rfl, _⟩ := id hx.l.1
  obtain ⟨Ab, cb, rfl, _⟩ := id hx.b.1
  obtain ⟨Ad, cd, rfl, _⟩ := id hx.d.1
  rw [ht.over, ho]
  clear h hx ht hs hs' ho e0 hz
  go_enter Try.func21, Try.ntmps21
  go_wp2
  go_region_held3 (fun W => (∀ j, W.cell? ⟨w.heap.size, j, none⟩ = (#[.slice Al x.line.length cl, .slice Ab x.busy.length cb, .slice Ad x.dirty.length cd, .bool true] : Array Value)[j]?) ∧ Below w.heap.size w W ∧ w.heap.size < W.heap.size)
    (first | assumption | exact drewA (startA w _ _) | exact startA w _ _ | exact keepA (by assumption) hb1 rfl | exact keepA (by assumption) hb2 rfl | exact keepA (by assumption) hb3 rfl | exact keepA (by assumption) hb4 rfl | exact keepA (by assumption) hb5 rfl | exact keepA (by assumption) hb6 rfl | exact keepA (by assumption) hb7 rfl | exact keepA (by assumption) hb8 rfl | exact keepA (by assumption) hb9 rfl)
    (first
      | (go_at_call 15; refine (waiting_any g o B st _ (HQ.out _ (balloc (Below.refl _ _) _).drew) (by have := HL.out.l; omega)).mono ?_; rintro e w1 ⟨v1, rfl, hr1, hb1⟩; have hB1 := bthen (balloc (Below.refl _ _) _).drew hb1; have HK1 := Lib.hid (keysIn_own hr1); obtain ⟨A1, c1, rfl⟩ := own_form hr1; clear hr1)
      | (go_at_call 54; refine (same_any _ _ _ _ _ HK6.out HK7.out l5 l6).mono ?_; rw [HS3.out]; rintro e w8 ⟨rfl, hb8⟩; have hB8 := bthen hB7 hb8; clear HK6 HK7)
      | (go_at_call 54; refine (same_any _ _ _ _ _ HK3.out HK4.out l3 l4).mono ?_; rw [HS2.out]; rintro e w5 ⟨rfl, hb5⟩; have hB5 := bthen hB4 hb5; clear HK3 HK4)
      | (go_at_call 54; refine (same_any _ _ _ _ _ HK1.out (HX.out _ hB1).l.keys l1 l2).mono ?_; rw [HS1.out]; rintro e w2 ⟨rfl, hb2⟩; have hB2 := bthen hB1 hb2; clear HK1)
      | (go_at_call 16; refine (busy_any g o B st _ (HQ.out _ hB2) (by have := HL.out.b; omega)).mono ?_; rintro e w3 ⟨v3, rfl, hr3, hb3⟩; have hB3 := bthen hB2 hb3; have HR3 := Lib.hid (keysIn_own hr3); obtain ⟨A3, c3, rfl⟩ := own_form hr3; clear hr3)
      | (go_at_call 49; refine (refRising_any _ _ _ (HX.out _ hB6).d.keys HD.out (by have := HL'.out.d; omega)).mono ?_; rintro e w7 ⟨v7, rfl, hr7, hb7⟩; have hB7 := bthen hB6 hb7; have HK7 := Lib.hid (KeysIn.own hr7); have HK6 := Lib.hid (HR6.out.below hb7); obtain ⟨A7, c7, rfl⟩ := own_form hr7; clear hr7 HR6)
      | (go_at_call 49; refine (refRising_any _ _ _ (HX.out _ hB3).b.keys HB.out (by have := HL'.out.b; omega)).mono ?_; rintro e w4 ⟨v4, rfl, hr4, hb4⟩; have hB4 := bthen hB3 hb4; have HK4 := Lib.hid (KeysIn.own hr4); have HK3 := Lib.hid (HR3.out.below hb4); obtain ⟨A4, c4, rfl⟩ := own_form hr4; clear hr4 HR3)
      | (go_at_call 17; refine (dirty_any g o B st _ (HQ.out _ hB5) (by have := HL.out.d; omega)).mono ?_; rintro e w6 ⟨v6, rfl, hr6, hb6⟩; have hB6 := bthen hB5 hb6; have HR6 := Lib.hid (keysIn_own hr6); obtain ⟨A6, c6, rfl⟩ := own_form hr6; clear hr6)
      | (go_at_call 22; refine (HO.out _ (HQ.out _ hB8)).mono ?_; rintro e w9 ⟨rfl, hb9⟩; have hB9 := bthen hB8 hb9))
  all_goals go_wp2
  all_goals go_ret
  all_goals exact ⟨rfl, hB9⟩

end Go.Proofs.Ytfnabpmdjfejbaa
