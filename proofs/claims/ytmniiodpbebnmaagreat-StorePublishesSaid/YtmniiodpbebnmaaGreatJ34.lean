/- Alike, at nodes and at loads. -/
import Derived.Test.YtmniiodpbebnmaaGreatJ33
import Derived.Test.YtmniiodpbebnmaaGreatJ17
import Derived.Test.YtmniiodpbebnmaaGreatJ13
namespace Go.Proofs.YtmniiodpbebnmaaGreat

section
set_option linter.unusedSimpArgs false
set_option linter.unusedVariables false
open Go.RowKit Go.Lib Go.Sort

deriving instance DecidableEq for Pol
theorem pol_ne {x y : Pol} (h : x ≠ y) : x.mn ≠ y.mn ∨ x.mx ≠ y.mx ∨ x.tg ≠ y.tg ∨ x.tol ≠ y.tol ∨ x.win ≠ y.win ∨ x.hold ≠ y.hold := by
  obtain ⟨a, b, c, d, e, f⟩ := x
  obtain ⟨a2, b2, c2, d2, e2, f2⟩ := y
  by_cases h1 : a = a2 <;> by_cases h2 : b = b2 <;> by_cases h3 : c = c2 <;> by_cases h4 : d = d2 <;> by_cases h5 : e = e2 <;> by_cases h6 : f = f2 <;> simp_all

set_option maxRecDepth 100000 in
set_option maxHeartbeats 8000000 in
theorem alike_core (N1 N2 : Nat) (p q : Pol) (b d : Bool) (l m : List Smp) (l2 m2 : List Adv) (w : World)
    (P1 : Hid (∀ W, Below w.heap.size w W → Calls Tryz.prog 106 #[.pointer (some ⟨N1, 0, none⟩)] W fun e w' => e = .returned (.tuple #[.agg #[.int .i64 p.mn, .int .i64 p.mx, .int .i64 p.tg, .int .i64 p.tol, .int .i64 p.win, .int .i64 p.hold], .bool b]) ∧ Below W.heap.size W w'))
    (P2 : Hid (∀ W, Below w.heap.size w W → Calls Tryz.prog 106 #[.pointer (some ⟨N2, 0, none⟩)] W fun e w' => e = .returned (.tuple #[.agg #[.int .i64 q.mn, .int .i64 q.mx, .int .i64 q.tg, .int .i64 q.tol, .int .i64 q.win, .int .i64 q.hold], .bool d]) ∧ Below W.heap.size W w'))
    (S1 : Hid (∀ W, Below w.heap.size w W → Calls Tryz.prog 107 #[.pointer (some ⟨N1, 0, none⟩)] W (CloneS smpC 111 2 W l)))
    (S2 : Hid (∀ W, Below w.heap.size w W → Calls Tryz.prog 107 #[.pointer (some ⟨N2, 0, none⟩)] W (CloneS smpC 111 2 W m)))
    (A1 : Hid (∀ W, Below w.heap.size w W → Calls Tryz.prog 108 #[.pointer (some ⟨N1, 0, none⟩)] W (CloneS advC 44 5 W l2)))
    (A2 : Hid (∀ W, Below w.heap.size w W → Calls Tryz.prog 108 #[.pointer (some ⟨N2, 0, none⟩)] W (CloneS advC 44 5 W m2)))
    (HL : Hid (l.length ≤ 1000000 ∧ m.length ≤ 1000000 ∧ l2.length ≤ 1000000 ∧ m2.length ≤ 1000000)) :
    Calls Tryz.prog 101 #[.pointer (some ⟨N1, 0, none⟩), .pointer (some ⟨N2, 0, none⟩)] w fun e w' => e = .returned (.bool (decide (b = d) && decide (p = q) && decide (l = m) && decide (l2 = m2))) ∧ Below w.heap.size w w' := by
  by_cases hb : b = d
  · subst hb
    by_cases hp : p = q
    · subst hp
      cases hs : decide (l = m) with
      | false =>
        as_aux_lemma =>
          have HSE := Lib.hid hs
          have HRES := Lib.hid (show (decide (b = b) && decide (p = p) && false && decide (l2 = m2)) = false by simp)
          clear hs
          go_enter Tryz.func101, Tryz.ntmps101
          go_wp2_with (first
            | (go_at_call 106
               have h9 := HB1
               refine calls_named ?_
               intro W2 hW2
               have hb2 : Below w1.heap.size w1 W2 := by rw [hW2]; exact balloc (Below.refl _ _) _
               have hx2 : W2.heap[w1.heap.size]? = some (.cells #[.int .i64 p.mn, .int .i64 p.mx, .int .i64 p.tg, .int .i64 p.tol, .int .i64 p.win, .int .i64 p.hold] 35 (0, 0)) := by rw [hW2]; exact heap_alloc_new _ _
               clear hW2 h9
               refine (P2.out W2 (bthen HB1.out hb2)).mono ?_
               rintro e w3 ⟨rfl, hb3⟩
               obtain ⟨a1, a2, a3⟩ := box_cells hb3 hx2
               have HB3 := Lib.hid (bthen HB1.out (bthen hb2 hb3))
               clear hb2 hx2 hb3)
            | (go_at_call 106
               refine (P1.out w (Below.refl _ _)).mono ?_
               rintro e w1 ⟨rfl, hb1⟩
               have HB1 := Lib.hid hb1
               clear hb1)
            | (go_at_call 107
               have h9 := HB5
               refine (S2.out w5 HB5.out).mono ?_
               rintro e w6 ⟨A6, c6, f6, rfl, hr, _, hb⟩
               have HR6 := Lib.hid (hr.row eSmp)
               have HR56 := Lib.hid (HR5.out.below hb)
               have HB6 := Lib.hid (bthen HB5.out hb)
               clear hr hb h9)
            | (go_at_call 107
               refine calls_named ?_
               intro W4 hW4
               have hb4 : Below w3.heap.size w3 W4 := by rw [hW4]; exact balloc (Below.refl _ _) _
               clear hW4
               refine (S1.out W4 (bthen HB3.out hb4)).mono ?_
               rintro e w5 ⟨A5, c5, f5, rfl, hr, _, hb⟩
               have HR5 := Lib.hid (hr.row eSmp)
               have HB5 := Lib.hid (bthen HB3.out (bthen hb4 hb))
               clear hr hb hb4)
            | (go_at_call 172
               refine (sEqual_any _ _ l m w6 HR56.out HR6.out HL.out.1 HL.out.2.1).mono ?_
               rw [HSE.out]
               rintro e w7 ⟨rfl, hb⟩
               have HB7 := Lib.hid (bthen HB6.out hb)
               clear hb)
            | (go_at_call 108
               have h9 := HB8
               refine (A2.out w8 HB8.out).mono ?_
               rintro e w9 ⟨A9, c9, f9, rfl, hr, _, hb⟩
               have HR9 := Lib.hid (hr.row eAdv)
               have HR89 := Lib.hid (HR8.out.below hb)
               have HB9 := Lib.hid (bthen HB8.out hb)
               clear hr hb h9)
            | (go_at_call 108
               refine (A1.out w7 HB7.out).mono ?_
               rintro e w8 ⟨A8, c8, f8, rfl, hr, _, hb⟩
               have HR8 := Lib.hid (hr.row eAdv)
               have HB8 := Lib.hid (bthen HB7.out hb)
               clear hr hb)
            | (go_at_call 173
               refine (aEqual_any _ _ l2 m2 w9 HR89.out HR9.out HL.out.2.2.1 HL.out.2.2.2).mono ?_
               rw [HAE.out]
               rintro e w10 ⟨rfl, hb⟩
               have HB10 := Lib.hid (bthen HB9.out hb)
               clear hb))
          go_ret
          exact ⟨by rw [HRES.out]; rfl, HB7.out⟩
      | true =>
        cases ha : decide (l2 = m2) with
        | false =>
          as_aux_lemma =>
            have HSE := Lib.hid hs
            have HAE := Lib.hid ha
            have HRES := Lib.hid (show (decide (b = b) && decide (p = p) && true && false) = false by simp)
            clear hs ha
            go_enter Tryz.func101, Tryz.ntmps101
            go_wp2_with (first
              | (go_at_call 106
                 have h9 := HB1
                 refine calls_named ?_
                 intro W2 hW2
                 have hb2 : Below w1.heap.size w1 W2 := by rw [hW2]; exact balloc (Below.refl _ _) _
                 have hx2 : W2.heap[w1.heap.size]? = some (.cells #[.int .i64 p.mn, .int .i64 p.mx, .int .i64 p.tg, .int .i64 p.tol, .int .i64 p.win, .int .i64 p.hold] 35 (0, 0)) := by rw [hW2]; exact heap_alloc_new _ _
                 clear hW2 h9
                 refine (P2.out W2 (bthen HB1.out hb2)).mono ?_
                 rintro e w3 ⟨rfl, hb3⟩
                 obtain ⟨a1, a2, a3⟩ := box_cells hb3 hx2
                 have HB3 := Lib.hid (bthen HB1.out (bthen hb2 hb3))
                 clear hb2 hx2 hb3)
              | (go_at_call 106
                 refine (P1.out w (Below.refl _ _)).mono ?_
                 rintro e w1 ⟨rfl, hb1⟩
                 have HB1 := Lib.hid hb1
                 clear hb1)
              | (go_at_call 107
                 have h9 := HB5
                 refine (S2.out w5 HB5.out).mono ?_
                 rintro e w6 ⟨A6, c6, f6, rfl, hr, _, hb⟩
                 have HR6 := Lib.hid (hr.row eSmp)
                 have HR56 := Lib.hid (HR5.out.below hb)
                 have HB6 := Lib.hid (bthen HB5.out hb)
                 clear hr hb h9)
              | (go_at_call 107
                 refine calls_named ?_
                 intro W4 hW4
                 have hb4 : Below w3.heap.size w3 W4 := by rw [hW4]; exact balloc (Below.refl _ _) _
                 clear hW4
                 refine (S1.out W4 (bthen HB3.out hb4)).mono ?_
                 rintro e w5 ⟨A5, c5, f5, rfl, hr, _, hb⟩
                 have HR5 := Lib.hid (hr.row eSmp)
                 have HB5 := Lib.hid (bthen HB3.out (bthen hb4 hb))
                 clear hr hb hb4)
              | (go_at_call 172
                 refine (sEqual_any _ _ l m w6 HR56.out HR6.out HL.out.1 HL.out.2.1).mono ?_
                 rw [HSE.out]
                 rintro e w7 ⟨rfl, hb⟩
                 have HB7 := Lib.hid (bthen HB6.out hb)
                 clear hb)
              | (go_at_call 108
                 have h9 := HB8
                 refine (A2.out w8 HB8.out).mono ?_
                 rintro e w9 ⟨A9, c9, f9, rfl, hr, _, hb⟩
                 have HR9 := Lib.hid (hr.row eAdv)
                 have HR89 := Lib.hid (HR8.out.below hb)
                 have HB9 := Lib.hid (bthen HB8.out hb)
                 clear hr hb h9)
              | (go_at_call 108
                 refine (A1.out w7 HB7.out).mono ?_
                 rintro e w8 ⟨A8, c8, f8, rfl, hr, _, hb⟩
                 have HR8 := Lib.hid (hr.row eAdv)
                 have HB8 := Lib.hid (bthen HB7.out hb)
                 clear hr hb)
              | (go_at_call 173
                 refine (aEqual_any _ _ l2 m2 w9 HR89.out HR9.out HL.out.2.2.1 HL.out.2.2.2).mono ?_
                 rw [HAE.out]
                 rintro e w10 ⟨rfl, hb⟩
                 have HB10 := Lib.hid (bthen HB9.out hb)
                 clear hb))
            go_ret
            exact ⟨by rw [HRES.out]; rfl, HB10.out⟩
        | true =>
          as_aux_lemma =>
            have HSE := Lib.hid hs
            have HAE := Lib.hid ha
            have HRES := Lib.hid (show (decide (b = b) && decide (p = p) && true && true) = true by simp)
            clear hs ha
            go_enter Tryz.func101, Tryz.ntmps101
            go_wp2_with (first
              | (go_at_call 106
                 have h9 := HB1
                 refine calls_named ?_
                 intro W2 hW2
                 have hb2 : Below w1.heap.size w1 W2 := by rw [hW2]; exact balloc (Below.refl _ _) _
                 have hx2 : W2.heap[w1.heap.size]? = some (.cells #[.int .i64 p.mn, .int .i64 p.mx, .int .i64 p.tg, .int .i64 p.tol, .int .i64 p.win, .int .i64 p.hold] 35 (0, 0)) := by rw [hW2]; exact heap_alloc_new _ _
                 clear hW2 h9
                 refine (P2.out W2 (bthen HB1.out hb2)).mono ?_
                 rintro e w3 ⟨rfl, hb3⟩
                 obtain ⟨a1, a2, a3⟩ := box_cells hb3 hx2
                 have HB3 := Lib.hid (bthen HB1.out (bthen hb2 hb3))
                 clear hb2 hx2 hb3)
              | (go_at_call 106
                 refine (P1.out w (Below.refl _ _)).mono ?_
                 rintro e w1 ⟨rfl, hb1⟩
                 have HB1 := Lib.hid hb1
                 clear hb1)
              | (go_at_call 107
                 have h9 := HB5
                 refine (S2.out w5 HB5.out).mono ?_
                 rintro e w6 ⟨A6, c6, f6, rfl, hr, _, hb⟩
                 have HR6 := Lib.hid (hr.row eSmp)
                 have HR56 := Lib.hid (HR5.out.below hb)
                 have HB6 := Lib.hid (bthen HB5.out hb)
                 clear hr hb h9)
              | (go_at_call 107
                 refine calls_named ?_
                 intro W4 hW4
                 have hb4 : Below w3.heap.size w3 W4 := by rw [hW4]; exact balloc (Below.refl _ _) _
                 clear hW4
                 refine (S1.out W4 (bthen HB3.out hb4)).mono ?_
                 rintro e w5 ⟨A5, c5, f5, rfl, hr, _, hb⟩
                 have HR5 := Lib.hid (hr.row eSmp)
                 have HB5 := Lib.hid (bthen HB3.out (bthen hb4 hb))
                 clear hr hb hb4)
              | (go_at_call 172
                 refine (sEqual_any _ _ l m w6 HR56.out HR6.out HL.out.1 HL.out.2.1).mono ?_
                 rw [HSE.out]
                 rintro e w7 ⟨rfl, hb⟩
                 have HB7 := Lib.hid (bthen HB6.out hb)
                 clear hb)
              | (go_at_call 108
                 have h9 := HB8
                 refine (A2.out w8 HB8.out).mono ?_
                 rintro e w9 ⟨A9, c9, f9, rfl, hr, _, hb⟩
                 have HR9 := Lib.hid (hr.row eAdv)
                 have HR89 := Lib.hid (HR8.out.below hb)
                 have HB9 := Lib.hid (bthen HB8.out hb)
                 clear hr hb h9)
              | (go_at_call 108
                 refine (A1.out w7 HB7.out).mono ?_
                 rintro e w8 ⟨A8, c8, f8, rfl, hr, _, hb⟩
                 have HR8 := Lib.hid (hr.row eAdv)
                 have HB8 := Lib.hid (bthen HB7.out hb)
                 clear hr hb)
              | (go_at_call 173
                 refine (aEqual_any _ _ l2 m2 w9 HR89.out HR9.out HL.out.2.2.1 HL.out.2.2.2).mono ?_
                 rw [HAE.out]
                 rintro e w10 ⟨rfl, hb⟩
                 have HB10 := Lib.hid (bthen HB9.out hb)
                 clear hb))
            go_ret
            exact ⟨by rw [HRES.out]; rfl, HB10.out⟩
    · have HRES := Lib.hid (show (decide (b = b) && decide (p = q) && decide (l = m) && decide (l2 = m2)) = false by simp [hp])
      rcases pol_ne hp with hne | hne | hne | hne | hne | hne
      · as_aux_lemma =>
          have hq : (p.mn == q.mn) = false := by simpa using hne
          clear hne hp
          go_enter Tryz.func101, Tryz.ntmps101
          go_wp2_with (first
            | (go_at_call 106
               have h9 := HB1
               refine calls_named ?_
               intro W2 hW2
               have hb2 : Below w1.heap.size w1 W2 := by rw [hW2]; exact balloc (Below.refl _ _) _
               have hx2 : W2.heap[w1.heap.size]? = some (.cells #[.int .i64 p.mn, .int .i64 p.mx, .int .i64 p.tg, .int .i64 p.tol, .int .i64 p.win, .int .i64 p.hold] 35 (0, 0)) := by rw [hW2]; exact heap_alloc_new _ _
               clear hW2 h9
               refine (P2.out W2 (bthen HB1.out hb2)).mono ?_
               rintro e w3 ⟨rfl, hb3⟩
               obtain ⟨a1, a2, a3⟩ := box_cells hb3 hx2
               have HB3 := Lib.hid (bthen HB1.out (bthen hb2 hb3))
               clear hb2 hx2 hb3)
            | (go_at_call 106
               refine (P1.out w (Below.refl _ _)).mono ?_
               rintro e w1 ⟨rfl, hb1⟩
               have HB1 := Lib.hid hb1
               clear hb1)
            | (go_at_call 107
               have h9 := HB5
               refine (S2.out w5 HB5.out).mono ?_
               rintro e w6 ⟨A6, c6, f6, rfl, hr, _, hb⟩
               have HR6 := Lib.hid (hr.row eSmp)
               have HR56 := Lib.hid (HR5.out.below hb)
               have HB6 := Lib.hid (bthen HB5.out hb)
               clear hr hb h9)
            | (go_at_call 107
               refine calls_named ?_
               intro W4 hW4
               have hb4 : Below w3.heap.size w3 W4 := by rw [hW4]; exact balloc (Below.refl _ _) _
               clear hW4
               refine (S1.out W4 (bthen HB3.out hb4)).mono ?_
               rintro e w5 ⟨A5, c5, f5, rfl, hr, _, hb⟩
               have HR5 := Lib.hid (hr.row eSmp)
               have HB5 := Lib.hid (bthen HB3.out (bthen hb4 hb))
               clear hr hb hb4)
            | (go_at_call 172
               refine (sEqual_any _ _ l m w6 HR56.out HR6.out HL.out.1 HL.out.2.1).mono ?_
               rw [HSE.out]
               rintro e w7 ⟨rfl, hb⟩
               have HB7 := Lib.hid (bthen HB6.out hb)
               clear hb)
            | (go_at_call 108
               have h9 := HB8
               refine (A2.out w8 HB8.out).mono ?_
               rintro e w9 ⟨A9, c9, f9, rfl, hr, _, hb⟩
               have HR9 := Lib.hid (hr.row eAdv)
               have HR89 := Lib.hid (HR8.out.below hb)
               have HB9 := Lib.hid (bthen HB8.out hb)
               clear hr hb h9)
            | (go_at_call 108
               refine (A1.out w7 HB7.out).mono ?_
               rintro e w8 ⟨A8, c8, f8, rfl, hr, _, hb⟩
               have HR8 := Lib.hid (hr.row eAdv)
               have HB8 := Lib.hid (bthen HB7.out hb)
               clear hr hb)
            | (go_at_call 173
               refine (aEqual_any _ _ l2 m2 w9 HR89.out HR9.out HL.out.2.2.1 HL.out.2.2.2).mono ?_
               rw [HAE.out]
               rintro e w10 ⟨rfl, hb⟩
               have HB10 := Lib.hid (bthen HB9.out hb)
               clear hb))
          go_ret
          exact ⟨by rw [HRES.out]; rfl, bthen HB3.out (balloc (Below.refl _ _) _)⟩
      · as_aux_lemma =>
          have hq : (p.mx == q.mx) = false := by simpa using hne
          clear hne hp
          go_enter Tryz.func101, Tryz.ntmps101
          go_wp2_with (first
            | (go_at_call 106
               have h9 := HB1
               refine calls_named ?_
               intro W2 hW2
               have hb2 : Below w1.heap.size w1 W2 := by rw [hW2]; exact balloc (Below.refl _ _) _
               have hx2 : W2.heap[w1.heap.size]? = some (.cells #[.int .i64 p.mn, .int .i64 p.mx, .int .i64 p.tg, .int .i64 p.tol, .int .i64 p.win, .int .i64 p.hold] 35 (0, 0)) := by rw [hW2]; exact heap_alloc_new _ _
               clear hW2 h9
               refine (P2.out W2 (bthen HB1.out hb2)).mono ?_
               rintro e w3 ⟨rfl, hb3⟩
               obtain ⟨a1, a2, a3⟩ := box_cells hb3 hx2
               have HB3 := Lib.hid (bthen HB1.out (bthen hb2 hb3))
               clear hb2 hx2 hb3)
            | (go_at_call 106
               refine (P1.out w (Below.refl _ _)).mono ?_
               rintro e w1 ⟨rfl, hb1⟩
               have HB1 := Lib.hid hb1
               clear hb1)
            | (go_at_call 107
               have h9 := HB5
               refine (S2.out w5 HB5.out).mono ?_
               rintro e w6 ⟨A6, c6, f6, rfl, hr, _, hb⟩
               have HR6 := Lib.hid (hr.row eSmp)
               have HR56 := Lib.hid (HR5.out.below hb)
               have HB6 := Lib.hid (bthen HB5.out hb)
               clear hr hb h9)
            | (go_at_call 107
               refine calls_named ?_
               intro W4 hW4
               have hb4 : Below w3.heap.size w3 W4 := by rw [hW4]; exact balloc (Below.refl _ _) _
               clear hW4
               refine (S1.out W4 (bthen HB3.out hb4)).mono ?_
               rintro e w5 ⟨A5, c5, f5, rfl, hr, _, hb⟩
               have HR5 := Lib.hid (hr.row eSmp)
               have HB5 := Lib.hid (bthen HB3.out (bthen hb4 hb))
               clear hr hb hb4)
            | (go_at_call 172
               refine (sEqual_any _ _ l m w6 HR56.out HR6.out HL.out.1 HL.out.2.1).mono ?_
               rw [HSE.out]
               rintro e w7 ⟨rfl, hb⟩
               have HB7 := Lib.hid (bthen HB6.out hb)
               clear hb)
            | (go_at_call 108
               have h9 := HB8
               refine (A2.out w8 HB8.out).mono ?_
               rintro e w9 ⟨A9, c9, f9, rfl, hr, _, hb⟩
               have HR9 := Lib.hid (hr.row eAdv)
               have HR89 := Lib.hid (HR8.out.below hb)
               have HB9 := Lib.hid (bthen HB8.out hb)
               clear hr hb h9)
            | (go_at_call 108
               refine (A1.out w7 HB7.out).mono ?_
               rintro e w8 ⟨A8, c8, f8, rfl, hr, _, hb⟩
               have HR8 := Lib.hid (hr.row eAdv)
               have HB8 := Lib.hid (bthen HB7.out hb)
               clear hr hb)
            | (go_at_call 173
               refine (aEqual_any _ _ l2 m2 w9 HR89.out HR9.out HL.out.2.2.1 HL.out.2.2.2).mono ?_
               rw [HAE.out]
               rintro e w10 ⟨rfl, hb⟩
               have HB10 := Lib.hid (bthen HB9.out hb)
               clear hb))
          go_ret
          exact ⟨by rw [HRES.out]; rfl, bthen HB3.out (balloc (Below.refl _ _) _)⟩
      · as_aux_lemma =>
          have hq : (p.tg == q.tg) = false := by simpa using hne
          clear hne hp
          go_enter Tryz.func101, Tryz.ntmps101
          go_wp2_with (first
            | (go_at_call 106
               have h9 := HB1
               refine calls_named ?_
               intro W2 hW2
               have hb2 : Below w1.heap.size w1 W2 := by rw [hW2]; exact balloc (Below.refl _ _) _
               have hx2 : W2.heap[w1.heap.size]? = some (.cells #[.int .i64 p.mn, .int .i64 p.mx, .int .i64 p.tg, .int .i64 p.tol, .int .i64 p.win, .int .i64 p.hold] 35 (0, 0)) := by rw [hW2]; exact heap_alloc_new _ _
               clear hW2 h9
               refine (P2.out W2 (bthen HB1.out hb2)).mono ?_
               rintro e w3 ⟨rfl, hb3⟩
               obtain ⟨a1, a2, a3⟩ := box_cells hb3 hx2
               have HB3 := Lib.hid (bthen HB1.out (bthen hb2 hb3))
               clear hb2 hx2 hb3)
            | (go_at_call 106
               refine (P1.out w (Below.refl _ _)).mono ?_
               rintro e w1 ⟨rfl, hb1⟩
               have HB1 := Lib.hid hb1
               clear hb1)
            | (go_at_call 107
               have h9 := HB5
               refine (S2.out w5 HB5.out).mono ?_
               rintro e w6 ⟨A6, c6, f6, rfl, hr, _, hb⟩
               have HR6 := Lib.hid (hr.row eSmp)
               have HR56 := Lib.hid (HR5.out.below hb)
               have HB6 := Lib.hid (bthen HB5.out hb)
               clear hr hb h9)
            | (go_at_call 107
               refine calls_named ?_
               intro W4 hW4
               have hb4 : Below w3.heap.size w3 W4 := by rw [hW4]; exact balloc (Below.refl _ _) _
               clear hW4
               refine (S1.out W4 (bthen HB3.out hb4)).mono ?_
               rintro e w5 ⟨A5, c5, f5, rfl, hr, _, hb⟩
               have HR5 := Lib.hid (hr.row eSmp)
               have HB5 := Lib.hid (bthen HB3.out (bthen hb4 hb))
               clear hr hb hb4)
            | (go_at_call 172
               refine (sEqual_any _ _ l m w6 HR56.out HR6.out HL.out.1 HL.out.2.1).mono ?_
               rw [HSE.out]
               rintro e w7 ⟨rfl, hb⟩
               have HB7 := Lib.hid (bthen HB6.out hb)
               clear hb)
            | (go_at_call 108
               have h9 := HB8
               refine (A2.out w8 HB8.out).mono ?_
               rintro e w9 ⟨A9, c9, f9, rfl, hr, _, hb⟩
               have HR9 := Lib.hid (hr.row eAdv)
               have HR89 := Lib.hid (HR8.out.below hb)
               have HB9 := Lib.hid (bthen HB8.out hb)
               clear hr hb h9)
            | (go_at_call 108
               refine (A1.out w7 HB7.out).mono ?_
               rintro e w8 ⟨A8, c8, f8, rfl, hr, _, hb⟩
               have HR8 := Lib.hid (hr.row eAdv)
               have HB8 := Lib.hid (bthen HB7.out hb)
               clear hr hb)
            | (go_at_call 173
               refine (aEqual_any _ _ l2 m2 w9 HR89.out HR9.out HL.out.2.2.1 HL.out.2.2.2).mono ?_
               rw [HAE.out]
               rintro e w10 ⟨rfl, hb⟩
               have HB10 := Lib.hid (bthen HB9.out hb)
               clear hb))
          go_ret
          exact ⟨by rw [HRES.out]; rfl, bthen HB3.out (balloc (Below.refl _ _) _)⟩
      · as_aux_lemma =>
          have hq : (p.tol == q.tol) = false := by simpa using hne
          clear hne hp
          go_enter Tryz.func101, Tryz.ntmps101
          go_wp2_with (first
            | (go_at_call 106
               have h9 := HB1
               refine calls_named ?_
               intro W2 hW2
               have hb2 : Below w1.heap.size w1 W2 := by rw [hW2]; exact balloc (Below.refl _ _) _
               have hx2 : W2.heap[w1.heap.size]? = some (.cells #[.int .i64 p.mn, .int .i64 p.mx, .int .i64 p.tg, .int .i64 p.tol, .int .i64 p.win, .int .i64 p.hold] 35 (0, 0)) := by rw [hW2]; exact heap_alloc_new _ _
               clear hW2 h9
               refine (P2.out W2 (bthen HB1.out hb2)).mono ?_
               rintro e w3 ⟨rfl, hb3⟩
               obtain ⟨a1, a2, a3⟩ := box_cells hb3 hx2
               have HB3 := Lib.hid (bthen HB1.out (bthen hb2 hb3))
               clear hb2 hx2 hb3)
            | (go_at_call 106
               refine (P1.out w (Below.refl _ _)).mono ?_
               rintro e w1 ⟨rfl, hb1⟩
               have HB1 := Lib.hid hb1
               clear hb1)
            | (go_at_call 107
               have h9 := HB5
               refine (S2.out w5 HB5.out).mono ?_
               rintro e w6 ⟨A6, c6, f6, rfl, hr, _, hb⟩
               have HR6 := Lib.hid (hr.row eSmp)
               have HR56 := Lib.hid (HR5.out.below hb)
               have HB6 := Lib.hid (bthen HB5.out hb)
               clear hr hb h9)
            | (go_at_call 107
               refine calls_named ?_
               intro W4 hW4
               have hb4 : Below w3.heap.size w3 W4 := by rw [hW4]; exact balloc (Below.refl _ _) _
               clear hW4
               refine (S1.out W4 (bthen HB3.out hb4)).mono ?_
               rintro e w5 ⟨A5, c5, f5, rfl, hr, _, hb⟩
               have HR5 := Lib.hid (hr.row eSmp)
               have HB5 := Lib.hid (bthen HB3.out (bthen hb4 hb))
               clear hr hb hb4)
            | (go_at_call 172
               refine (sEqual_any _ _ l m w6 HR56.out HR6.out HL.out.1 HL.out.2.1).mono ?_
               rw [HSE.out]
               rintro e w7 ⟨rfl, hb⟩
               have HB7 := Lib.hid (bthen HB6.out hb)
               clear hb)
            | (go_at_call 108
               have h9 := HB8
               refine (A2.out w8 HB8.out).mono ?_
               rintro e w9 ⟨A9, c9, f9, rfl, hr, _, hb⟩
               have HR9 := Lib.hid (hr.row eAdv)
               have HR89 := Lib.hid (HR8.out.below hb)
               have HB9 := Lib.hid (bthen HB8.out hb)
               clear hr hb h9)
            | (go_at_call 108
               refine (A1.out w7 HB7.out).mono ?_
               rintro e w8 ⟨A8, c8, f8, rfl, hr, _, hb⟩
               have HR8 := Lib.hid (hr.row eAdv)
               have HB8 := Lib.hid (bthen HB7.out hb)
               clear hr hb)
            | (go_at_call 173
               refine (aEqual_any _ _ l2 m2 w9 HR89.out HR9.out HL.out.2.2.1 HL.out.2.2.2).mono ?_
               rw [HAE.out]
               rintro e w10 ⟨rfl, hb⟩
               have HB10 := Lib.hid (bthen HB9.out hb)
               clear hb))
          go_ret
          exact ⟨by rw [HRES.out]; rfl, bthen HB3.out (balloc (Below.refl _ _) _)⟩
      · as_aux_lemma =>
          have hq : (p.win == q.win) = false := by simpa using hne
          clear hne hp
          go_enter Tryz.func101, Tryz.ntmps101
          go_wp2_with (first
            | (go_at_call 106
               have h9 := HB1
               refine calls_named ?_
               intro W2 hW2
               have hb2 : Below w1.heap.size w1 W2 := by rw [hW2]; exact balloc (Below.refl _ _) _
               have hx2 : W2.heap[w1.heap.size]? = some (.cells #[.int .i64 p.mn, .int .i64 p.mx, .int .i64 p.tg, .int .i64 p.tol, .int .i64 p.win, .int .i64 p.hold] 35 (0, 0)) := by rw [hW2]; exact heap_alloc_new _ _
               clear hW2 h9
               refine (P2.out W2 (bthen HB1.out hb2)).mono ?_
               rintro e w3 ⟨rfl, hb3⟩
               obtain ⟨a1, a2, a3⟩ := box_cells hb3 hx2
               have HB3 := Lib.hid (bthen HB1.out (bthen hb2 hb3))
               clear hb2 hx2 hb3)
            | (go_at_call 106
               refine (P1.out w (Below.refl _ _)).mono ?_
               rintro e w1 ⟨rfl, hb1⟩
               have HB1 := Lib.hid hb1
               clear hb1)
            | (go_at_call 107
               have h9 := HB5
               refine (S2.out w5 HB5.out).mono ?_
               rintro e w6 ⟨A6, c6, f6, rfl, hr, _, hb⟩
               have HR6 := Lib.hid (hr.row eSmp)
               have HR56 := Lib.hid (HR5.out.below hb)
               have HB6 := Lib.hid (bthen HB5.out hb)
               clear hr hb h9)
            | (go_at_call 107
               refine calls_named ?_
               intro W4 hW4
               have hb4 : Below w3.heap.size w3 W4 := by rw [hW4]; exact balloc (Below.refl _ _) _
               clear hW4
               refine (S1.out W4 (bthen HB3.out hb4)).mono ?_
               rintro e w5 ⟨A5, c5, f5, rfl, hr, _, hb⟩
               have HR5 := Lib.hid (hr.row eSmp)
               have HB5 := Lib.hid (bthen HB3.out (bthen hb4 hb))
               clear hr hb hb4)
            | (go_at_call 172
               refine (sEqual_any _ _ l m w6 HR56.out HR6.out HL.out.1 HL.out.2.1).mono ?_
               rw [HSE.out]
               rintro e w7 ⟨rfl, hb⟩
               have HB7 := Lib.hid (bthen HB6.out hb)
               clear hb)
            | (go_at_call 108
               have h9 := HB8
               refine (A2.out w8 HB8.out).mono ?_
               rintro e w9 ⟨A9, c9, f9, rfl, hr, _, hb⟩
               have HR9 := Lib.hid (hr.row eAdv)
               have HR89 := Lib.hid (HR8.out.below hb)
               have HB9 := Lib.hid (bthen HB8.out hb)
               clear hr hb h9)
            | (go_at_call 108
               refine (A1.out w7 HB7.out).mono ?_
               rintro e w8 ⟨A8, c8, f8, rfl, hr, _, hb⟩
               have HR8 := Lib.hid (hr.row eAdv)
               have HB8 := Lib.hid (bthen HB7.out hb)
               clear hr hb)
            | (go_at_call 173
               refine (aEqual_any _ _ l2 m2 w9 HR89.out HR9.out HL.out.2.2.1 HL.out.2.2.2).mono ?_
               rw [HAE.out]
               rintro e w10 ⟨rfl, hb⟩
               have HB10 := Lib.hid (bthen HB9.out hb)
               clear hb))
          go_ret
          exact ⟨by rw [HRES.out]; rfl, bthen HB3.out (balloc (Below.refl _ _) _)⟩
      · as_aux_lemma =>
          have hq : (p.hold == q.hold) = false := by simpa using hne
          clear hne hp
          go_enter Tryz.func101, Tryz.ntmps101
          go_wp2_with (first
            | (go_at_call 106
               have h9 := HB1
               refine calls_named ?_
               intro W2 hW2
               have hb2 : Below w1.heap.size w1 W2 := by rw [hW2]; exact balloc (Below.refl _ _) _
               have hx2 : W2.heap[w1.heap.size]? = some (.cells #[.int .i64 p.mn, .int .i64 p.mx, .int .i64 p.tg, .int .i64 p.tol, .int .i64 p.win, .int .i64 p.hold] 35 (0, 0)) := by rw [hW2]; exact heap_alloc_new _ _
               clear hW2 h9
               refine (P2.out W2 (bthen HB1.out hb2)).mono ?_
               rintro e w3 ⟨rfl, hb3⟩
               obtain ⟨a1, a2, a3⟩ := box_cells hb3 hx2
               have HB3 := Lib.hid (bthen HB1.out (bthen hb2 hb3))
               clear hb2 hx2 hb3)
            | (go_at_call 106
               refine (P1.out w (Below.refl _ _)).mono ?_
               rintro e w1 ⟨rfl, hb1⟩
               have HB1 := Lib.hid hb1
               clear hb1)
            | (go_at_call 107
               have h9 := HB5
               refine (S2.out w5 HB5.out).mono ?_
               rintro e w6 ⟨A6, c6, f6, rfl, hr, _, hb⟩
               have HR6 := Lib.hid (hr.row eSmp)
               have HR56 := Lib.hid (HR5.out.below hb)
               have HB6 := Lib.hid (bthen HB5.out hb)
               clear hr hb h9)
            | (go_at_call 107
               refine calls_named ?_
               intro W4 hW4
               have hb4 : Below w3.heap.size w3 W4 := by rw [hW4]; exact balloc (Below.refl _ _) _
               clear hW4
               refine (S1.out W4 (bthen HB3.out hb4)).mono ?_
               rintro e w5 ⟨A5, c5, f5, rfl, hr, _, hb⟩
               have HR5 := Lib.hid (hr.row eSmp)
               have HB5 := Lib.hid (bthen HB3.out (bthen hb4 hb))
               clear hr hb hb4)
            | (go_at_call 172
               refine (sEqual_any _ _ l m w6 HR56.out HR6.out HL.out.1 HL.out.2.1).mono ?_
               rw [HSE.out]
               rintro e w7 ⟨rfl, hb⟩
               have HB7 := Lib.hid (bthen HB6.out hb)
               clear hb)
            | (go_at_call 108
               have h9 := HB8
               refine (A2.out w8 HB8.out).mono ?_
               rintro e w9 ⟨A9, c9, f9, rfl, hr, _, hb⟩
               have HR9 := Lib.hid (hr.row eAdv)
               have HR89 := Lib.hid (HR8.out.below hb)
               have HB9 := Lib.hid (bthen HB8.out hb)
               clear hr hb h9)
            | (go_at_call 108
               refine (A1.out w7 HB7.out).mono ?_
               rintro e w8 ⟨A8, c8, f8, rfl, hr, _, hb⟩
               have HR8 := Lib.hid (hr.row eAdv)
               have HB8 := Lib.hid (bthen HB7.out hb)
               clear hr hb)
            | (go_at_call 173
               refine (aEqual_any _ _ l2 m2 w9 HR89.out HR9.out HL.out.2.2.1 HL.out.2.2.2).mono ?_
               rw [HAE.out]
               rintro e w10 ⟨rfl, hb⟩
               have HB10 := Lib.hid (bthen HB9.out hb)
               clear hb))
          go_ret
          exact ⟨by rw [HRES.out]; rfl, bthen HB3.out (balloc (Below.refl _ _) _)⟩
  · have HRES := Lib.hid (show (decide (b = d) && decide (p = q) && decide (l = m) && decide (l2 = m2)) = false by simp [hb])
    have hq : (b == d) = false := by simpa using hb
    clear hb
    as_aux_lemma =>
      skip
      go_enter Tryz.func101, Tryz.ntmps101
      go_wp2_with (first
        | (go_at_call 106
           have h9 := HB1
           refine calls_named ?_
           intro W2 hW2
           have hb2 : Below w1.heap.size w1 W2 := by rw [hW2]; exact balloc (Below.refl _ _) _
           have hx2 : W2.heap[w1.heap.size]? = some (.cells #[.int .i64 p.mn, .int .i64 p.mx, .int .i64 p.tg, .int .i64 p.tol, .int .i64 p.win, .int .i64 p.hold] 35 (0, 0)) := by rw [hW2]; exact heap_alloc_new _ _
           clear hW2 h9
           refine (P2.out W2 (bthen HB1.out hb2)).mono ?_
           rintro e w3 ⟨rfl, hb3⟩
           obtain ⟨a1, a2, a3⟩ := box_cells hb3 hx2
           have HB3 := Lib.hid (bthen HB1.out (bthen hb2 hb3))
           clear hb2 hx2 hb3)
        | (go_at_call 106
           refine (P1.out w (Below.refl _ _)).mono ?_
           rintro e w1 ⟨rfl, hb1⟩
           have HB1 := Lib.hid hb1
           clear hb1)
        | (go_at_call 107
           have h9 := HB5
           refine (S2.out w5 HB5.out).mono ?_
           rintro e w6 ⟨A6, c6, f6, rfl, hr, _, hb⟩
           have HR6 := Lib.hid (hr.row eSmp)
           have HR56 := Lib.hid (HR5.out.below hb)
           have HB6 := Lib.hid (bthen HB5.out hb)
           clear hr hb h9)
        | (go_at_call 107
           refine calls_named ?_
           intro W4 hW4
           have hb4 : Below w3.heap.size w3 W4 := by rw [hW4]; exact balloc (Below.refl _ _) _
           clear hW4
           refine (S1.out W4 (bthen HB3.out hb4)).mono ?_
           rintro e w5 ⟨A5, c5, f5, rfl, hr, _, hb⟩
           have HR5 := Lib.hid (hr.row eSmp)
           have HB5 := Lib.hid (bthen HB3.out (bthen hb4 hb))
           clear hr hb hb4)
        | (go_at_call 172
           refine (sEqual_any _ _ l m w6 HR56.out HR6.out HL.out.1 HL.out.2.1).mono ?_
           rw [HSE.out]
           rintro e w7 ⟨rfl, hb⟩
           have HB7 := Lib.hid (bthen HB6.out hb)
           clear hb)
        | (go_at_call 108
           have h9 := HB8
           refine (A2.out w8 HB8.out).mono ?_
           rintro e w9 ⟨A9, c9, f9, rfl, hr, _, hb⟩
           have HR9 := Lib.hid (hr.row eAdv)
           have HR89 := Lib.hid (HR8.out.below hb)
           have HB9 := Lib.hid (bthen HB8.out hb)
           clear hr hb h9)
        | (go_at_call 108
           refine (A1.out w7 HB7.out).mono ?_
           rintro e w8 ⟨A8, c8, f8, rfl, hr, _, hb⟩
           have HR8 := Lib.hid (hr.row eAdv)
           have HB8 := Lib.hid (bthen HB7.out hb)
           clear hr hb)
        | (go_at_call 173
           refine (aEqual_any _ _ l2 m2 w9 HR89.out HR9.out HL.out.2.2.1 HL.out.2.2.2).mono ?_
           rw [HAE.out]
           rintro e w10 ⟨rfl, hb⟩
           have HB10 := Lib.hid (bthen HB9.out hb)
           clear hb))
      go_ret
      exact ⟨by rw [HRES.out]; rfl, bthen HB3.out (balloc (Below.refl _ _) _)⟩

def alikeN (x y : Nd) : Bool := decide (x.ruled = y.ruled) && decide (x.pol = y.pol) && decide (x.smp = y.smp) && decide (x.past = y.past)
theorem alike_any (N1 N2 : Nat) (x y : Nd) (rs rh rs2 rh2 : Nat) (fp fp2 : List Nat) (w : World) (h1 : NodeIn w N1 x rs rh fp) (h2 : NodeIn w N2 y rs2 rh2 fp2) (b1 : rs ≤ 256) (b2 : rh ≤ 64) (b3 : rs2 ≤ 256) (b4 : rh2 ≤ 64)
    (hl : x.smp.length ≤ 1000000 ∧ y.smp.length ≤ 1000000 ∧ x.past.length ≤ 1000000 ∧ y.past.length ≤ 1000000) :
    Calls Tryz.prog 101 #[.pointer (some ⟨N1, 0, none⟩), .pointer (some ⟨N2, 0, none⟩)] w fun e w' => e = .returned (.bool (alikeN x y)) ∧ Below w.heap.size w w' :=
  alike_core N1 N2 x.pol y.pol x.ruled y.ruled x.smp y.smp x.past y.past w (Lib.hid fun W hW => nodePolicy_any N1 x rs rh fp W (h1.below hW)) (Lib.hid fun W hW => nodePolicy_any N2 y rs2 rh2 fp2 W (h2.below hW))
    (Lib.hid fun W hW => nodeSamples_any N1 x rs rh fp W (h1.below hW) b1) (Lib.hid fun W hW => nodeSamples_any N2 y rs2 rh2 fp2 W (h2.below hW) b3) (Lib.hid fun W hW => nodePast_any N1 x rs rh fp W (h1.below hW) b2) (Lib.hid fun W hW => nodePast_any N2 y rs2 rh2 fp2 W (h2.below hW) b4) (Lib.hid hl)
end

end Go.Proofs.YtmniiodpbebnmaaGreat
