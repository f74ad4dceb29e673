/- The reference's queue: Get. -/
import Derived.Test.YtfnabpmdjfejbaaQRefQ
namespace Go.Proofs.Ytfnabpmdjfejbaa
set_option linter.unusedSimpArgs false
set_option linter.unusedVariables false
open Go.RowKit Go.Lib

/-- What a call of Get says. -/
def RGetSays (P : Nat → Prop) (w : World) (r : RQ) (k : Ky) (is : Bool) (e : Ending) (w' : World) : Prop :=
  ∃ vl vb vd, e = .returned (.tuple #[.agg #[vl, vb, vd, .bool r.over], .agg #[.int .u64 k.1, .int .u64 k.2], .bool is]) ∧ RQAt P w' vl vb vd r ∧ Below w.heap.size w w'

set_option maxRecDepth 100000 in
set_option maxHeartbeats 4000000 in
theorem rget_none (P : Nat → Prop) (vl vb vd : Value) (x : RQ) (w : World) (hP : ∀ b, w.heap.size ≤ b → P b) (h : RQAt P w vl vb vd x) (hl : x.line = []) :
    Calls Try.prog 18 #[.agg #[vl, vb, vd, .bool x.over]] w (RGetSays P w x (0, 0) false) := by
  have HR := Lib.hid h
  obtain ⟨Al, cl, rfl, _⟩ := h.l.1
  obtain ⟨Ab, cb, rfl, _⟩ := h.b.1
  obtain ⟨Ad, cd, rfl, _⟩ := h.d.1
  have hl0 : x.line.length = 0 := by rw [hl]; rfl
  clear h
  rw [hl0]
  have H0 := Lib.hid hl0
  clear hl hl0
  go_enter Try.func18, Try.ntmps18
  go_wp2
  have hf : Below w.heap.size w (((w.alloc (.cells #[.slice Al 0 cl, .slice Ab x.busy.length cb, .slice Ad x.dirty.length cd, .bool x.over] 44)).alloc (.cells #[.slice Al 0 cl, .slice Ab x.busy.length cb, .slice Ad x.dirty.length cd, .bool x.over] 44)).alloc (.cells #[.int .u64 0, .int .u64 0] 32)) := balloc (balloc (balloc (Below.refl _ _) _) _) _
  exact bodyPost_ret (v := .tuple #[.agg #[.slice Al 0 cl, .slice Ab x.busy.length cb, .slice Ad x.dirty.length cd, .bool x.over], .agg #[.int .u64 0, .int .u64 0], .bool false]) (by simp [results, Try.results18, go_sem]) rfl ⟨_, _, _, rfl, ⟨by have := HR.out.l.below hf; rwa [H0.out] at this, HR.out.b.below hf, HR.out.d.below hf⟩, hf⟩

theorem four_boxes (w : World) (o1 o2 o3 o4 : Obj) : ∀ W, W = (((w.alloc o1).alloc o2).alloc o3).alloc o4 → W.heap[w.heap.size]? = some o1 ∧ W.heap[w.heap.size + 1]? = some o2 ∧ W.heap[w.heap.size + 1 + 1]? = some o3 ∧ W.heap[w.heap.size + 1 + 1 + 1]? = some o4 ∧ W.heap.size = w.heap.size + 4 ∧ Below w.heap.size w W := by
  rintro W rfl
  obtain ⟨h1, h2, h3, hs, hb⟩ := three_boxes w o1 o2 o3 _ rfl
  have h4 := heap_alloc_new (((w.alloc o1).alloc o2).alloc o3) o4
  rw [hs] at h4
  exact ⟨(Below.heap_alloc _ _ _ (by rw [hs]; omega)).trans h1, (Below.heap_alloc _ _ _ (by rw [hs]; omega)).trans h2, (Below.heap_alloc _ _ _ (by rw [hs]; omega)).trans h3, h4, by rw [World.size_alloc, hs], balloc hb _⟩

set_option maxRecDepth 100000 in
set_option maxHeartbeats 4000000 in
theorem rget_step (P : Nat → Prop) (b o o' cl : Nat) (Ab Ad : Option Addr) (cb cd : Nat) (x : RQ) (k : Ky) (l : List Ky) (w : World) (hP : ∀ b, w.heap.size ≤ b → P b) (hb : b < w.heap.size) (hBu : RowP P w (.slice Ab x.busy.length cb) x.busy) (hDi : RowP P w (.slice Ad x.dirty.length cd) x.dirty) (hs : x.small 1000000)
    (c0 : w.cell? ⟨b, o, none⟩ = some (.int .u64 k.1)) (c1 : w.cell? ⟨b, o + 1, none⟩ = some (.int .u64 k.2)) (hcl : l.length ≤ 1000000) (ho' : if cl = 1 then o' = o else o' = o + 2) (hcap : l.length + 1 ≤ cl) (hT : RowP P w (.slice (some ⟨b, o', none⟩) l.length (cl - 1)) l) :
    Calls Try.prog 18 #[.agg #[.slice (some ⟨b, o, none⟩) (l.length + 1) cl, .slice Ab x.busy.length cb, .slice Ad x.dirty.length cd, .bool x.over]] w (RGetSays P w { x with line := l, dirty := lessL x.dirty k, busy := x.busy ++ [k] } k true) := by
  have Hs := Lib.hid hs
  obtain ⟨W, hW⟩ : ∃ W, W = ((w.alloc (.cells #[.slice (some ⟨b, o, none⟩) (l.length + 1) cl, .slice Ab x.busy.length cb, .slice Ad x.dirty.length cd, .bool x.over] 44)).alloc (.cells #[.slice none 0 0, .slice none 0 0, .slice none 0 0, .bool false] 44)).alloc (.cells #[.int .u64 0, .int .u64 0] 32) := ⟨_, rfl⟩
  obtain ⟨_, _, _, hsz, hbW⟩ := three_boxes _ _ _ _ W hW
  have d0 := (hbW.cell (p := ⟨b, o, none⟩) hb).trans c0
  have d1 := (hbW.cell (p := ⟨b, o + 1, none⟩) hb).trans c1
  rw [hW] at d0 d1
  clear hW hbW hsz
  obtain ⟨W4, hW4⟩ : ∃ W4, W4 = (((w.alloc (.cells #[.slice (some ⟨b, o', none⟩) l.length (cl - 1), .slice Ab x.busy.length cb, .slice Ad x.dirty.length cd, .bool x.over] 44)).alloc (.cells #[.slice none 0 0, .slice none 0 0, .slice none 0 0, .bool false] 44)).alloc (.cells #[.int .u64 0, .int .u64 0] 32)).alloc (.cells #[.int .u64 k.1, .int .u64 k.2] 32) := ⟨_, rfl⟩
  obtain ⟨b0, b1, b2, b3, hsz, hbW⟩ := four_boxes _ _ _ _ _ W4 hW4
  have HT := Lib.hid (KeysOff.of 4 hT hbW)
  have HB := Lib.hid (KeysOff.of 4 hBu hbW)
  have HD := Lib.hid (KeysOff.of 4 hDi hbW)
  have HM := Lib.hid (less_row _ _ k W4 HD.out.keys hs.d)
  clear hT hBu hDi
  by_cases h1 : cl = 1
  · rw [if_pos h1] at ho'
    have hl0 : l = [] := List.eq_nil_of_length_eq_zero (by omega)
    subst h1 ho' hl0
    simp only [List.length_nil, Nat.zero_add] at d0 d1
    simp only [List.length_nil, Nat.sub_self] at hW4
    go_enter Try.func18, Try.ntmps18
    go_wp2_with (first
      | (go_at_call 52; rw [← hW4]; refine HM.out.mono ?_; rintro e w2 ⟨v2, rfl, ho2, hb2⟩
         obtain ⟨A2, c2, rfl⟩ := own_form ho2
         obtain ⟨q1, q2, q3, q4⟩ := box_at hb2 b0
         obtain ⟨q5, q6, q7, q8⟩ := box_at hb2 b3
         have q9 := (hb2.block _ (Array.getElem?_eq_some_iff.1 b1).1).trans b1
         have q10 := (hb2.block _ (Array.getElem?_eq_some_iff.1 b2).1).trans b2
         have hbw2 := hb2.size
         clear hW4)
      | (go_at_call 53
         obtain ⟨W3, hW3⟩ : ∃ W3, W3 = w2.setCell ⟨w.heap.size, 2, none⟩ (.slice A2 (lessL x.dirty k).length c2) := ⟨_, rfl⟩
         rw [← hW3]
         obtain ⟨p1, p2, p3⟩ := box_field (i := 2) q4 q8 (by omega) W3 hW3
         obtain ⟨_, p4, _⟩ := box_field (i := 2) q4 q9 (by omega) W3 hW3
         obtain ⟨_, p5, _⟩ := box_field (i := 2) q4 q10 (by omega) W3 hW3
         have hD3 : KeysOff P w.heap.size 4 W3 (.slice A2 (lessL x.dirty k).length c2) (lessL x.dirty k) := by rw [hW3]; exact (KeysOff.own ho2 (by omega) (fun b hb => hP b (by omega))).set _ (Nat.le_refl _) (by omega)
         have hB3 : KeysOff P w.heap.size 4 W3 (.slice Ab x.busy.length cb) x.busy := by rw [hW3]; exact (HB.out.below hb2).set _ (Nat.le_refl _) (by omega)
         have hT3 : KeysOff P w.heap.size 4 W3 (.slice (some ⟨b, o', none⟩) 0 0) [] := by rw [hW3]; exact (HT.out.below hb2).set _ (Nat.le_refl _) (by omega)
         have hbW3 : Below w.heap.size w W3 := by rw [hW3]; exact (bthen hbW hb2).setCell (Nat.le_refl _) _
         clear hW3 q1 q2 q3 q5 q6 q7
         refine (more_row _ _ k W3 hB3.keys hs.b).mono ?_; rintro e w4 ⟨v4, rfl, ho4, hb4⟩
         obtain ⟨A4, c4, rfl⟩ := own_form ho4
         obtain ⟨k1, k2, k3, k4⟩ := box_at hb4 p1
         obtain ⟨k5, k6, k7, k8⟩ := box_at hb4 p2
         have k12 := (hb4.block _ (Array.getElem?_eq_some_iff.1 p4).1).trans p4
         have k16 := (hb4.block _ (Array.getElem?_eq_some_iff.1 p5).1).trans p5
         have hbw4 := hb4.size))
    refine name_world ?_
    intro W6 hW6
    obtain ⟨z1, z2, z3⟩ := box_field (i := 1) k4 k8 (by omega) W6 hW6
    obtain ⟨_, z4, _⟩ := box_field (i := 1) k4 k12 (by omega) W6 hW6
    obtain ⟨_, z5, _⟩ := box_field (i := 1) k4 k16 (by omega) W6 hW6
    have hbW6 : Below w.heap.size w W6 := by rw [hW6]; exact (bthen hbW3 hb4).setCell (Nat.le_refl _) _
    have HD6 := Lib.hid ((hD3.below hb4).set (r := w.heap.size) (j := 1) (.slice A4 (x.busy.length + 1) c4) (Nat.le_refl _) (by omega))
    have HT6 := Lib.hid ((hT3.below hb4).set (r := w.heap.size) (j := 1) (.slice A4 (x.busy.length + 1) c4) (Nat.le_refl _) (by omega))
    have hB5 : KeysOff P w.heap.size 4 w4 (.slice A4 (x.busy.length + 1) c4) (x.busy ++ [k]) := by rw [show x.busy.length + 1 = (x.busy ++ [k]).length by simp]; exact KeysOff.own ho4 (by omega) (fun b hb => hP b (by omega))
    have HB6 := Lib.hid (hB5.set (r := w.heap.size) (j := 1) (.slice A4 (x.busy.length + 1) c4) (Nat.le_refl _) (by omega))
    rw [← hW6] at HD6 HT6 HB6
    obtain ⟨y1, y2, y3, _⟩ := box_at (Below.refl _ _) z1
    obtain ⟨y4, y5, y6, _⟩ := box_at (Below.refl _ _) z2
    obtain ⟨y7, y8, y9, _⟩ := box_at (Below.refl _ _) z4
    obtain ⟨y10, y11, y12, _⟩ := box_at (Below.refl _ _) z5
    clear hW6 k1 k2 k3 k5 k6 k7 hB5
    go_region
    all_goals go_wp2
    have hf : Below w.heap.size w _ := ((below4 (B := w.heap.size + 1) hbW6 (by omega) (.slice (some ⟨b, o', none⟩) 0 0) (.slice A4 (x.busy.length + 1) c4) (.slice A2 (lessL x.dirty k).length c2) (.bool x.over)).setCell (p := ⟨w.heap.size + 1 + 1, 0, none⟩) (by show w.heap.size ≤ w.heap.size + 1 + 1; omega) (.int .u64 k.1)).setCell (p := ⟨w.heap.size + 1 + 1, 1, none⟩) (by show w.heap.size ≤ w.heap.size + 1 + 1; omega) (.int .u64 k.2)
    have fin : ∀ v l', KeysOff P w.heap.size 4 W6 v l' → RowP P _ v l' := fun v l' h => (((h.set4 (B := w.heap.size + 1) (by omega) (by omega) (.slice (some ⟨b, o', none⟩) 0 0) (.slice A4 (x.busy.length + 1) c4) (.slice A2 (lessL x.dirty k).length c2) (.bool x.over)).set (r := w.heap.size + 1 + 1) (j := 0) (.int .u64 k.1) (by omega) (by omega)).set (r := w.heap.size + 1 + 1) (j := 1) (.int .u64 k.2) (by omega) (by omega)).row.below (Below.drew (Below.refl _ _))
    exact bodyPost_ret (v := .tuple #[.agg #[(.slice (some ⟨b, o', none⟩) 0 0), .slice A4 (x.busy.length + 1) c4, .slice A2 (lessL x.dirty k).length c2, .bool x.over], .agg #[.int .u64 k.1, .int .u64 k.2], .bool true]) (by simp [results, Try.results18, go_sem, y7, y10]) rfl ⟨_, _, _, rfl, ⟨fin _ _ HT6.out, fin _ _ HB6.out, fin _ _ HD6.out⟩, hf.drew⟩
  · rw [if_neg h1] at ho'
    subst ho'
    have hq : cl ≠ 1 := h1
    go_enter Try.func18, Try.ntmps18
    go_wp2_with (first
      | (go_at_call 52; rw [← hW4]; refine HM.out.mono ?_; rintro e w2 ⟨v2, rfl, ho2, hb2⟩
         obtain ⟨A2, c2, rfl⟩ := own_form ho2
         obtain ⟨q1, q2, q3, q4⟩ := box_at hb2 b0
         obtain ⟨q5, q6, q7, q8⟩ := box_at hb2 b3
         have q9 := (hb2.block _ (Array.getElem?_eq_some_iff.1 b1).1).trans b1
         have q10 := (hb2.block _ (Array.getElem?_eq_some_iff.1 b2).1).trans b2
         have hbw2 := hb2.size
         clear hW4)
      | (go_at_call 53
         obtain ⟨W3, hW3⟩ : ∃ W3, W3 = w2.setCell ⟨w.heap.size, 2, none⟩ (.slice A2 (lessL x.dirty k).length c2) := ⟨_, rfl⟩
         rw [← hW3]
         obtain ⟨p1, p2, p3⟩ := box_field (i := 2) q4 q8 (by omega) W3 hW3
         obtain ⟨_, p4, _⟩ := box_field (i := 2) q4 q9 (by omega) W3 hW3
         obtain ⟨_, p5, _⟩ := box_field (i := 2) q4 q10 (by omega) W3 hW3
         have hD3 : KeysOff P w.heap.size 4 W3 (.slice A2 (lessL x.dirty k).length c2) (lessL x.dirty k) := by rw [hW3]; exact (KeysOff.own ho2 (by omega) (fun b hb => hP b (by omega))).set _ (Nat.le_refl _) (by omega)
         have hB3 : KeysOff P w.heap.size 4 W3 (.slice Ab x.busy.length cb) x.busy := by rw [hW3]; exact (HB.out.below hb2).set _ (Nat.le_refl _) (by omega)
         have hT3 : KeysOff P w.heap.size 4 W3 (.slice (some ⟨b, o + 2, none⟩) l.length (cl - 1)) l := by rw [hW3]; exact (HT.out.below hb2).set _ (Nat.le_refl _) (by omega)
         have hbW3 : Below w.heap.size w W3 := by rw [hW3]; exact (bthen hbW hb2).setCell (Nat.le_refl _) _
         clear hW3 q1 q2 q3 q5 q6 q7
         refine (more_row _ _ k W3 hB3.keys hs.b).mono ?_; rintro e w4 ⟨v4, rfl, ho4, hb4⟩
         obtain ⟨A4, c4, rfl⟩ := own_form ho4
         obtain ⟨k1, k2, k3, k4⟩ := box_at hb4 p1
         obtain ⟨k5, k6, k7, k8⟩ := box_at hb4 p2
         have k12 := (hb4.block _ (Array.getElem?_eq_some_iff.1 p4).1).trans p4
         have k16 := (hb4.block _ (Array.getElem?_eq_some_iff.1 p5).1).trans p5
         have hbw4 := hb4.size))
    refine name_world ?_
    intro W6 hW6
    obtain ⟨z1, z2, z3⟩ := box_field (i := 1) k4 k8 (by omega) W6 hW6
    obtain ⟨_, z4, _⟩ := box_field (i := 1) k4 k12 (by omega) W6 hW6
    obtain ⟨_, z5, _⟩ := box_field (i := 1) k4 k16 (by omega) W6 hW6
    have hbW6 : Below w.heap.size w W6 := by rw [hW6]; exact (bthen hbW3 hb4).setCell (Nat.le_refl _) _
    have HD6 := Lib.hid ((hD3.below hb4).set (r := w.heap.size) (j := 1) (.slice A4 (x.busy.length + 1) c4) (Nat.le_refl _) (by omega))
    have HT6 := Lib.hid ((hT3.below hb4).set (r := w.heap.size) (j := 1) (.slice A4 (x.busy.length + 1) c4) (Nat.le_refl _) (by omega))
    have hB5 : KeysOff P w.heap.size 4 w4 (.slice A4 (x.busy.length + 1) c4) (x.busy ++ [k]) := by rw [show x.busy.length + 1 = (x.busy ++ [k]).length by simp]; exact KeysOff.own ho4 (by omega) (fun b hb => hP b (by omega))
    have HB6 := Lib.hid (hB5.set (r := w.heap.size) (j := 1) (.slice A4 (x.busy.length + 1) c4) (Nat.le_refl _) (by omega))
    rw [← hW6] at HD6 HT6 HB6
    obtain ⟨y1, y2, y3, _⟩ := box_at (Below.refl _ _) z1
    obtain ⟨y4, y5, y6, _⟩ := box_at (Below.refl _ _) z2
    obtain ⟨y7, y8, y9, _⟩ := box_at (Below.refl _ _) z4
    obtain ⟨y10, y11, y12, _⟩ := box_at (Below.refl _ _) z5
    clear hW6 k1 k2 k3 k5 k6 k7 hB5
    go_region
    all_goals go_wp2
    have hf : Below w.heap.size w _ := ((below4 (B := w.heap.size + 1) hbW6 (by omega) (.slice (some ⟨b, o + 2, none⟩) l.length (cl - 1)) (.slice A4 (x.busy.length + 1) c4) (.slice A2 (lessL x.dirty k).length c2) (.bool x.over)).setCell (p := ⟨w.heap.size + 1 + 1, 0, none⟩) (by show w.heap.size ≤ w.heap.size + 1 + 1; omega) (.int .u64 k.1)).setCell (p := ⟨w.heap.size + 1 + 1, 1, none⟩) (by show w.heap.size ≤ w.heap.size + 1 + 1; omega) (.int .u64 k.2)
    have fin : ∀ v l', KeysOff P w.heap.size 4 W6 v l' → RowP P _ v l' := fun v l' h => (((h.set4 (B := w.heap.size + 1) (by omega) (by omega) (.slice (some ⟨b, o + 2, none⟩) l.length (cl - 1)) (.slice A4 (x.busy.length + 1) c4) (.slice A2 (lessL x.dirty k).length c2) (.bool x.over)).set (r := w.heap.size + 1 + 1) (j := 0) (.int .u64 k.1) (by omega) (by omega)).set (r := w.heap.size + 1 + 1) (j := 1) (.int .u64 k.2) (by omega) (by omega)).row.below (Below.drew (Below.refl _ _))
    exact bodyPost_ret (v := .tuple #[.agg #[(.slice (some ⟨b, o + 2, none⟩) l.length (cl - 1)), .slice A4 (x.busy.length + 1) c4, .slice A2 (lessL x.dirty k).length c2, .bool x.over], .agg #[.int .u64 k.1, .int .u64 k.2], .bool true]) (by simp [results, Try.results18, go_sem, y7, y10]) rfl ⟨_, _, _, rfl, ⟨fin _ _ HT6.out, fin _ _ HB6.out, fin _ _ HD6.out⟩, hf.drew⟩

def getR (x : RQ) : RQ × Ky × Bool := match x.line with
  | [] => (x, (0, 0), false)
  | k :: l => ({ x with line := l, dirty := lessL x.dirty k, busy := x.busy ++ [k] }, k, true)

theorem rget_any (P : Nat → Prop) (vl vb vd : Value) (x : RQ) (w : World) (hP : ∀ b, w.heap.size ≤ b → P b) (h : RQAt P w vl vb vd x) (hs : x.small 1000000) :
    Calls Try.prog 18 #[.agg #[vl, vb, vd, .bool x.over]] w (RGetSays P w (getR x).1 (getR x).2.1 (getR x).2.2) := by
  unfold getR
  cases hl : x.line with
  | nil => exact rget_none P vl vb vd x w hP h hl
  | cons k l =>
    obtain ⟨A, c, rfl, hcap, hr⟩ := id h.l.1
    obtain ⟨Ab, cb, rfl, _⟩ := id h.b.1
    obtain ⟨Ad, cd, rfl, _⟩ := id h.d.1
    have hl2 : x.line.length = l.length + 1 := by rw [hl]; rfl
    obtain ⟨b, o, rfl, hb, hc⟩ := hr (by omega)
    have hx0 : x.line[0]? = some k := by rw [hl]; rfl
    have c0 : w.cell? ⟨b, o, none⟩ = some (.int .u64 k.1) := by simpa using hc 0 k hx0 0 _ rfl
    have c1 : w.cell? ⟨b, o + 1, none⟩ = some (.int .u64 k.2) := by simpa using hc 0 k hx0 1 _ rfl
    have hT := RowIn.part h.l.1 (i := 1) (j := x.line.length) (by omega) (Nat.le_refl _)
    have e1 : (x.line.take x.line.length).drop 1 = l := by rw [List.take_length, hl]; rfl
    rw [e1, show x.line.length - 1 = l.length by omega] at hT
    have hsm := hs.l
    have hT2 : RowIn 2 keyC w (.slice (some ⟨b, if c = 1 then o else o + 2, none⟩) l.length (c - 1)) l := by
      by_cases h1 : c = 1
      · rw [if_pos h1] at hT; rw [if_pos h1]; exact hT
      · rw [if_neg h1] at hT; rw [if_neg h1]; rwa [Option.map_some, add_at] at hT
    have := rget_step P b o (if c = 1 then o else o + 2) c Ab Ad cb cd x k l w hP hb h.b h.d hs c0 c1 (by omega) (by split <;> rfl) (by omega) ⟨hT2, fun b' o' n' c' e hn => by injection e with e1 _ _; injection e1 with e1; injection e1 with e1; rw [← e1]; exact h.l.2 b o _ _ rfl (by omega)⟩
    rw [hl2]
    exact this
end Go.Proofs.Ytfnabpmdjfejbaa
