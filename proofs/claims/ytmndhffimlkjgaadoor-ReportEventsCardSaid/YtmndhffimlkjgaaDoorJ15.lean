/- line.Text: the kinds whose words are told in an order that is drawn. -/
import Derived.Test.YtmndhffimlkjgaaDoorJ14
import Derived.Deep.RegionLaw
import Derived.Deep.DeepCutAuto
namespace Go.Proofs.YtmndhffimlkjgaaDoor

section
set_option linter.unusedSimpArgs false
set_option linter.unusedVariables false
open Go.RowKit Go.Lib

theorem bytes_size (l : List UInt8) : (⟨l.toArray⟩ : ByteArray).size = l.length := by show l.toArray.size = _; simp
theorem polS_size {p : Pol} (h : p.ok) : (⟨(polText p).toArray⟩ : ByteArray).size ≤ 1000 := by
  rw [bytes_size]
  have := polTo_len h 6
  exact Nat.le_trans this (by decide)

set_option maxRecDepth 100000 in
set_option maxHeartbeats 8000000 in
theorem ltext_6 (id : ByteArray) (tick val handle mn mx tg tol win hold : Int) (w : World) (hid : id.size ≤ maxLen) (ht : Tab w) (i1 : I64 tick) (i2 : I64 val) (i3 : I64 handle) (ip : (Pol.mk mn mx tg tol win hold).ok) (hok : idS id = true) :
    Calls Tryd.prog 27 #[.agg #[.int .i64 6, .string id, .int .i64 tick, .int .i64 val, .int .i64 handle, .int .i64 mn, .int .i64 mx, .int .i64 tg, .int .i64 tol, .int .i64 win, .int .i64 hold]] w (TextSays w (joinS [(⟨#[115, 101, 116]⟩ : ByteArray), id, ⟨(polText ⟨mn, mx, tg, tol, win, hold⟩).toArray⟩]) 0) := by
  have HID := Lib.hid hid
  have HT := Lib.hid ht
  have HI1 := Lib.hid i1
  have HI2 := Lib.hid i2
  have HI3 := Lib.hid i3
  have HIP := Lib.hid ip
  have HCK := Lib.hid (show chkV id = 0 by unfold chkV; rw [if_pos hok])
  have HSZ := Lib.hid (idS_okTo id hok).2.1
  clear hid ht i1 i2 i3 ip hok
  have HSL := Lib.hid (show ∀ s ∈ [(⟨#[115, 101, 116]⟩ : ByteArray), id, ⟨(polText ⟨mn, mx, tg, tol, win, hold⟩).toArray⟩], s.size ≤ 1000 from by
    intro s hs
    simp only [List.mem_cons, List.not_mem_nil, or_false] at hs
    rcases hs with rfl | rfl | rfl
    · decide
    · exact (by have := HSZ.out; omega)
    · exact polS_size HIP.out)
  go_enter Tryd.func27, Tryd.ntmps27
  go_wp2_with (first
    | (go_at_call 44
       refine calls_named ?_
       intro W1 hW1
       have hb1 : Below w.heap.size w W1 := by rw [hW1]; exact balloc (Below.refl _ _) _
       have hx1 : W1.heap[w.heap.size]? = some (.cells #[.int .i64 6, .string id, .int .i64 tick, .int .i64 val, .int .i64 handle, .int .i64 mn, .int .i64 mx, .int .i64 tg, .int .i64 tol, .int .i64 win, .int .i64 hold] 30 (0, 0)) := by rw [hW1]; exact heap_alloc_new _ _
       clear hW1
       refine (verb_6 W1).mono ?_
       rintro e w2 ⟨rfl, hb2⟩
       obtain ⟨a2, a2f, a2l, a2h⟩ := box_at hb2 hx1
       have HX2 := Lib.hid a2h
       have HB2 := Lib.hid (bthen hb1 hb2)
       clear hb1 hx1 hb2 a2h)
    | (go_at_call 45
       refine (check_any id w2 HID.out).mono ?_
       rw [HCK.out]
       rintro e w3 ⟨rfl, hb3⟩
       obtain ⟨a3, a3f, a3l, a3h⟩ := box_at (hb3) HX2.out
       have HX3 := Lib.hid a3h
       have HB3 := Lib.hid (bthen HB2.out (hb3))
       clear a3h)
    | go_in)
  refine name_world ?_
  intro W1 hW1
  have hb1 : Below w.heap.size w W1 := by rw [hW1]; exact balloc HB3.out _
  have ho1 : OwnL strC 9 1 w.heap.size W1 (.slice (some ⟨w3.heap.size, 0, none⟩) 1 1) [(⟨#[115, 101, 116]⟩ : ByteArray)] := by rw [hW1]; exact OwnL.lits (f := strC) (e := 9) (n := 1) w.heap.size w3 [(⟨#[115, 101, 116]⟩ : ByteArray)] _ w3.heap.size 1 rfl (HB3.out.size) rfl (by decide) rfl rfl
  have hx1 : W1.heap[w.heap.size]? = some (.cells #[.int .i64 6, .string id, .int .i64 tick, .int .i64 val, .int .i64 handle, .int .i64 mn, .int .i64 mx, .int .i64 tg, .int .i64 tol, .int .i64 win, .int .i64 hold] 30 (0, 0)) := by rw [hW1]; exact (Below.heap_alloc _ _ _ (Array.getElem?_eq_some_iff.1 HX3.out).1).trans HX3.out
  clear hW1 a2 a2f a2l a3 a3f a3l
  have HX1 := Lib.hid hx1
  have HB1 := Lib.hid hb1
  have HO1 := Lib.hid ho1
  have hS00 : W1.heap[w.heap.size]? = some (.cells #[.int .i64 6, .string id, .int .i64 tick, .int .i64 val, .int .i64 handle, .int .i64 mn, .int .i64 mx, .int .i64 tg, .int .i64 tol, .int .i64 win, .int .i64 hold] 30 (0, 0)) := hx1
  have hS0 : W1.drew.heap[w.heap.size]? = some (.cells #[.int .i64 6, .string id, .int .i64 tick, .int .i64 val, .int .i64 handle, .int .i64 mn, .int .i64 mx, .int .i64 tg, .int .i64 tol, .int .i64 win, .int .i64 hold] 30 (0, 0)) := hx1
  have rl : ∀ U : World, U.heap[w.heap.size]? = some (.cells #[.int .i64 6, .string id, .int .i64 tick, .int .i64 val, .int .i64 handle, .int .i64 mn, .int .i64 mx, .int .i64 tg, .int .i64 tol, .int .i64 win, .int .i64 hold] 30 (0, 0)) → (∀ j, U.cell? ⟨w.heap.size, j, none⟩ = (#[.int .i64 6, .string id, .int .i64 tick, .int .i64 val, .int .i64 handle, .int .i64 mn, .int .i64 mx, .int .i64 tg, .int .i64 tol, .int .i64 win, .int .i64 hold] : Array Value)[j]?) := fun U hU => (box_cells (Below.refl _ _) hU).1
  clear hx1 hb1 ho1
  go_region_held3 (fun U => U.heap[w.heap.size]? = some (.cells #[.int .i64 6, .string id, .int .i64 tick, .int .i64 val, .int .i64 handle, .int .i64 mn, .int .i64 mx, .int .i64 tg, .int .i64 tol, .int .i64 win, .int .i64 hold] 30 (0, 0)))
    (first
      | with_reducible exact hS0
      | with_reducible exact HX4.out
      | exact (Below.heap_alloc _ _ _ (Array.getElem?_eq_some_iff.1 HX4.out).1).trans HX4.out
      | with_reducible exact HX6.out)
    (first
    | (have h9 := HO4.out
       refine step_appendL eStr (by rfl) (.tmp 74) (.tmp 80) (by rfl) w.heap.size [(⟨#[115, 101, 116]⟩ : ByteArray)] [id, ⟨(polText ⟨mn, mx, tg, tol, win, hold⟩).toArray⟩] (.slice (some ⟨w3.heap.size, 0, none⟩) 1 1) _ (by rfl) (by rfl) (h9.below (balloc (Below.refl _ _) _)) ((OwnL.lits (f := strC) (e := 9) (n := 1) w.heap.size w4 [id, ⟨(polText ⟨mn, mx, tg, tol, win, hold⟩).toArray⟩] _ w4.heap.size 2 rfl (bthen HB1.out HB4.out).size rfl (by decide) rfl rfl).row eStr) (by simp) (by have := (bthen HB1.out HB4.out).size; simp; omega) ?_
       intro out6 A6 c6 w6 hout6 hown6 hg6 hblk6
       have hb6 : Below w.heap.size w w6 := (balloc (bthen HB1.out HB4.out) _).trans (grown_own hg6 h9 (by have := (bthen HB1.out HB4.out).size; simp; omega))
       have hx6 := (hg6.block w.heap.size (by have := (Array.getElem?_eq_some_iff.1 HX4.out).1; simp; omega) (fun e => by have := HB3.out.size; have := (Array.getElem?_eq_some_iff.1 HX3.out).1; simp [Value.ownBlock] at e; omega)).trans ((Below.heap_alloc _ _ _ (Array.getElem?_eq_some_iff.1 HX4.out).1).trans HX4.out)
       rw [show out6 = [(⟨#[115, 101, 116]⟩ : ByteArray), id, ⟨(polText ⟨mn, mx, tg, tol, win, hold⟩).toArray⟩] from hout6] at hown6 ⊢
       have HO6 := Lib.hid hown6
       have HB6 := Lib.hid hb6
       have HX6 := Lib.hid hx6
       clear h9 hown6 hout6 hg6 hblk6 hb6 hx6)
    | (go_at_call 47
       refine calls_named ?_
       intro W2 hW2
       have hb2 : Below W1.heap.size W1 W2 := by
         rw [hW2]
         first
           | with_reducible exact Below.drew (Below.refl _ _)
           | with_reducible exact Below.refl _ _
           | with_reducible exact HB5.out
           | with_reducible exact HB7.out
       clear hW2
       refine (polText_any ⟨mn, mx, tg, tol, win, hold⟩ HIP.out W2 (HT.out.below (bthen HB1.out hb2))).mono ?_
       rintro e w4 ⟨rfl, hb4⟩
       have hb5 := bthen hb2 hb4
       have HB4 := Lib.hid hb5
       have HO4 := Lib.hid (HO1.out.below hb5)
       have HX4 := Lib.hid ((hb5.block _ (Array.getElem?_eq_some_iff.1 HX1.out).1).trans HX1.out)
       clear hb2 hb4 hb5))
  all_goals
    go_wp2_with (go_at_call 18
                 refine (joinO_any w.heap.size _ _ _ _ HO6.out (by simp) HSL.out (by simp)).mono ?_
                 rintro e w8 ⟨rfl, hb8⟩
                 have HB8 := Lib.hid hb8
                 clear hb8)
    go_ret2
    exact ⟨rfl, bthen HB6.out HB8.out⟩

set_option maxRecDepth 100000 in
set_option maxHeartbeats 8000000 in
theorem ltext_1 (id : ByteArray) (tick val handle mn mx tg tol win hold : Int) (w : World) (hid : id.size ≤ maxLen) (ht : Tab w) (i1 : I64 tick) (i2 : I64 val) (i3 : I64 handle) (ip : (Pol.mk mn mx tg tol win hold).ok) (hok : idS id = true) :
    Calls Tryd.prog 27 #[.agg #[.int .i64 1, .string id, .int .i64 tick, .int .i64 val, .int .i64 handle, .int .i64 mn, .int .i64 mx, .int .i64 tg, .int .i64 tol, .int .i64 win, .int .i64 hold]] w (TextSays w (joinS [(⟨#[105, 110, 103, 101, 115, 116]⟩ : ByteArray), id, dec tick, dec val]) 0) := by
  have HID := Lib.hid hid
  have HT := Lib.hid ht
  have HI1 := Lib.hid i1
  have HI2 := Lib.hid i2
  have HI3 := Lib.hid i3
  have HIP := Lib.hid ip
  have HCK := Lib.hid (show chkV id = 0 by unfold chkV; rw [if_pos hok])
  have HSZ := Lib.hid (idS_okTo id hok).2.1
  clear hid ht i1 i2 i3 ip hok
  have HSL := Lib.hid (show ∀ s ∈ [(⟨#[105, 110, 103, 101, 115, 116]⟩ : ByteArray), id, dec tick, dec val], s.size ≤ 1000 from by
    intro s hs
    simp only [List.mem_cons, List.not_mem_nil, or_false] at hs
    rcases hs with rfl | rfl | rfl | rfl
    · decide
    · exact (by have := HSZ.out; omega)
    · exact (by rw [dec_size]; have := itoa_len HI1.out; omega)
    · exact (by rw [dec_size]; have := itoa_len HI2.out; omega))
  go_enter Tryd.func27, Tryd.ntmps27
  go_wp2_with (first
    | (go_at_call 44
       refine calls_named ?_
       intro W1 hW1
       have hb1 : Below w.heap.size w W1 := by rw [hW1]; exact balloc (Below.refl _ _) _
       have hx1 : W1.heap[w.heap.size]? = some (.cells #[.int .i64 1, .string id, .int .i64 tick, .int .i64 val, .int .i64 handle, .int .i64 mn, .int .i64 mx, .int .i64 tg, .int .i64 tol, .int .i64 win, .int .i64 hold] 30 (0, 0)) := by rw [hW1]; exact heap_alloc_new _ _
       clear hW1
       refine (verb_1 W1).mono ?_
       rintro e w2 ⟨rfl, hb2⟩
       obtain ⟨a2, a2f, a2l, a2h⟩ := box_at hb2 hx1
       have HX2 := Lib.hid a2h
       have HB2 := Lib.hid (bthen hb1 hb2)
       clear hb1 hx1 hb2 a2h)
    | (go_at_call 45
       refine (check_any id w2 HID.out).mono ?_
       rw [HCK.out]
       rintro e w3 ⟨rfl, hb3⟩
       obtain ⟨a3, a3f, a3l, a3h⟩ := box_at (hb3) HX2.out
       have HX3 := Lib.hid a3h
       have HB3 := Lib.hid (bthen HB2.out (hb3))
       clear a3h)
    | go_in)
  refine name_world ?_
  intro W1 hW1
  have hb1 : Below w.heap.size w W1 := by rw [hW1]; exact balloc HB3.out _
  have ho1 : OwnL strC 9 1 w.heap.size W1 (.slice (some ⟨w3.heap.size, 0, none⟩) 1 1) [(⟨#[105, 110, 103, 101, 115, 116]⟩ : ByteArray)] := by rw [hW1]; exact OwnL.lits (f := strC) (e := 9) (n := 1) w.heap.size w3 [(⟨#[105, 110, 103, 101, 115, 116]⟩ : ByteArray)] _ w3.heap.size 1 rfl (HB3.out.size) rfl (by decide) rfl rfl
  have hx1 : W1.heap[w.heap.size]? = some (.cells #[.int .i64 1, .string id, .int .i64 tick, .int .i64 val, .int .i64 handle, .int .i64 mn, .int .i64 mx, .int .i64 tg, .int .i64 tol, .int .i64 win, .int .i64 hold] 30 (0, 0)) := by rw [hW1]; exact (Below.heap_alloc _ _ _ (Array.getElem?_eq_some_iff.1 HX3.out).1).trans HX3.out
  clear hW1 a2 a2f a2l a3 a3f a3l
  have HX1 := Lib.hid hx1
  have HB1 := Lib.hid hb1
  have HO1 := Lib.hid ho1
  have hS00 : W1.heap[w.heap.size]? = some (.cells #[.int .i64 1, .string id, .int .i64 tick, .int .i64 val, .int .i64 handle, .int .i64 mn, .int .i64 mx, .int .i64 tg, .int .i64 tol, .int .i64 win, .int .i64 hold] 30 (0, 0)) := hx1
  have hS0 : W1.drew.heap[w.heap.size]? = some (.cells #[.int .i64 1, .string id, .int .i64 tick, .int .i64 val, .int .i64 handle, .int .i64 mn, .int .i64 mx, .int .i64 tg, .int .i64 tol, .int .i64 win, .int .i64 hold] 30 (0, 0)) := hx1
  have rl : ∀ U : World, U.heap[w.heap.size]? = some (.cells #[.int .i64 1, .string id, .int .i64 tick, .int .i64 val, .int .i64 handle, .int .i64 mn, .int .i64 mx, .int .i64 tg, .int .i64 tol, .int .i64 win, .int .i64 hold] 30 (0, 0)) → (∀ j, U.cell? ⟨w.heap.size, j, none⟩ = (#[.int .i64 1, .string id, .int .i64 tick, .int .i64 val, .int .i64 handle, .int .i64 mn, .int .i64 mx, .int .i64 tg, .int .i64 tol, .int .i64 win, .int .i64 hold] : Array Value)[j]?) := fun U hU => (box_cells (Below.refl _ _) hU).1
  clear hx1 hb1 ho1
  go_region_held3 (fun U => U.heap[w.heap.size]? = some (.cells #[.int .i64 1, .string id, .int .i64 tick, .int .i64 val, .int .i64 handle, .int .i64 mn, .int .i64 mx, .int .i64 tg, .int .i64 tol, .int .i64 win, .int .i64 hold] 30 (0, 0)))
    (first
      | with_reducible exact hS0
      | with_reducible exact HX4.out
      | with_reducible exact HX5.out
      | exact (Below.heap_alloc _ _ _ (Array.getElem?_eq_some_iff.1 HX4.out).1).trans HX4.out
      | exact (Below.heap_alloc _ _ _ (Array.getElem?_eq_some_iff.1 HX5.out).1).trans HX5.out
      | with_reducible exact HX6.out)
    (first
    | (have h9 := HO4.out
       refine step_appendL eStr (by rfl) (.tmp 29) (.tmp 38) (by rfl) w.heap.size [(⟨#[105, 110, 103, 101, 115, 116]⟩ : ByteArray)] [id, dec tick, dec val] (.slice (some ⟨w3.heap.size, 0, none⟩) 1 1) _ (by rfl) (by rfl) (h9.below (balloc (Below.refl _ _) _)) ((OwnL.lits (f := strC) (e := 9) (n := 1) w.heap.size w4 [id, dec tick, dec val] _ w4.heap.size 3 rfl (bthen HB1.out HB4.out).size rfl (by decide) rfl rfl).row eStr) (by simp) (by have := (bthen HB1.out HB4.out).size; simp; omega) ?_
       intro out6 A6 c6 w6 hout6 hown6 hg6 hblk6
       have hb6 : Below w.heap.size w w6 := (balloc (bthen HB1.out HB4.out) _).trans (grown_own hg6 h9 (by have := (bthen HB1.out HB4.out).size; simp; omega))
       have hx6 := (hg6.block w.heap.size (by have := (Array.getElem?_eq_some_iff.1 HX4.out).1; simp; omega) (fun e => by have := HB3.out.size; have := (Array.getElem?_eq_some_iff.1 HX3.out).1; simp [Value.ownBlock] at e; omega)).trans ((Below.heap_alloc _ _ _ (Array.getElem?_eq_some_iff.1 HX4.out).1).trans HX4.out)
       rw [show out6 = [(⟨#[105, 110, 103, 101, 115, 116]⟩ : ByteArray), id, dec tick, dec val] from hout6] at hown6 ⊢
       have HO6 := Lib.hid hown6
       have HB6 := Lib.hid hb6
       have HX6 := Lib.hid hx6
       clear h9 hown6 hout6 hg6 hblk6 hb6 hx6)
    | (have h9 := HO5.out
       refine step_appendL eStr (by rfl) (.tmp 29) (.tmp 38) (by rfl) w.heap.size [(⟨#[105, 110, 103, 101, 115, 116]⟩ : ByteArray)] [id, dec tick, dec val] (.slice (some ⟨w3.heap.size, 0, none⟩) 1 1) _ (by rfl) (by rfl) (h9.below (balloc (Below.refl _ _) _)) ((OwnL.lits (f := strC) (e := 9) (n := 1) w.heap.size w5 [id, dec tick, dec val] _ w5.heap.size 3 rfl (bthen HB1.out HB5.out).size rfl (by decide) rfl rfl).row eStr) (by simp) (by have := (bthen HB1.out HB5.out).size; simp; omega) ?_
       intro out6 A6 c6 w6 hout6 hown6 hg6 hblk6
       have hb6 : Below w.heap.size w w6 := (balloc (bthen HB1.out HB5.out) _).trans (grown_own hg6 h9 (by have := (bthen HB1.out HB5.out).size; simp; omega))
       have hx6 := (hg6.block w.heap.size (by have := (Array.getElem?_eq_some_iff.1 HX5.out).1; simp; omega) (fun e => by have := HB3.out.size; have := (Array.getElem?_eq_some_iff.1 HX3.out).1; simp [Value.ownBlock] at e; omega)).trans ((Below.heap_alloc _ _ _ (Array.getElem?_eq_some_iff.1 HX5.out).1).trans HX5.out)
       rw [show out6 = [(⟨#[105, 110, 103, 101, 115, 116]⟩ : ByteArray), id, dec tick, dec val] from hout6] at hown6 ⊢
       have HO6 := Lib.hid hown6
       have HB6 := Lib.hid hb6
       have HX6 := Lib.hid hx6
       clear h9 hown6 hout6 hg6 hblk6 hb6 hx6)
    | (go_at_call 28
       refine calls_named ?_
       intro W2 hW2
       have hb2 : Below W1.heap.size W1 W2 := by
         rw [hW2]
         first
           | with_reducible exact Below.drew (Below.refl _ _)
           | with_reducible exact Below.refl _ _
           | with_reducible exact HB5.out
           | with_reducible exact HB7.out
       clear hW2
       refine (number_any tick HI1.out W2 (HT.out.below (bthen HB1.out hb2))).mono ?_
       rintro e w4 ⟨rfl, hb4⟩
       have hb5 := bthen hb2 hb4
       have HB4 := Lib.hid hb5
       have HO4 := Lib.hid (HO1.out.below hb5)
       have HX4 := Lib.hid ((hb5.block _ (Array.getElem?_eq_some_iff.1 HX1.out).1).trans HX1.out)
       clear hb2 hb4 hb5)
    | (go_at_call 28
       refine calls_named ?_
       intro W2 hW2
       have hb2 : Below W1.heap.size W1 W2 := by
         rw [hW2]
         first
           | with_reducible exact Below.drew (Below.refl _ _)
           | with_reducible exact Below.refl _ _
           | with_reducible exact HB4.out
           | with_reducible exact HB7.out
       clear hW2
       refine (number_any val HI2.out W2 (HT.out.below (bthen HB1.out hb2))).mono ?_
       rintro e w5 ⟨rfl, hb4⟩
       have hb5 := bthen hb2 hb4
       have HB5 := Lib.hid hb5
       have HO5 := Lib.hid (HO1.out.below hb5)
       have HX5 := Lib.hid ((hb5.block _ (Array.getElem?_eq_some_iff.1 HX1.out).1).trans HX1.out)
       clear hb2 hb4 hb5))
  all_goals
    go_wp2_with (go_at_call 18
                 refine (joinO_any w.heap.size _ _ _ _ HO6.out (by simp) HSL.out (by simp)).mono ?_
                 rintro e w8 ⟨rfl, hb8⟩
                 have HB8 := Lib.hid hb8
                 clear hb8)
    go_ret2
    exact ⟨rfl, bthen HB6.out HB8.out⟩

set_option maxRecDepth 100000 in
set_option maxHeartbeats 8000000 in
theorem ltext_5 (id : ByteArray) (tick val handle mn mx tg tol win hold : Int) (w : World) (hid : id.size ≤ maxLen) (ht : Tab w) (i1 : I64 tick) (i2 : I64 val) (i3 : I64 handle) (ip : (Pol.mk mn mx tg tol win hold).ok) (hok : idS id = true) :
    Calls Tryd.prog 27 #[.agg #[.int .i64 5, .string id, .int .i64 tick, .int .i64 val, .int .i64 handle, .int .i64 mn, .int .i64 mx, .int .i64 tg, .int .i64 tol, .int .i64 win, .int .i64 hold]] w (TextSays w (joinS [(⟨#[108, 111, 111, 107]⟩ : ByteArray), dec handle, id, dec tick, dec val]) 0) := by
  have HID := Lib.hid hid
  have HT := Lib.hid ht
  have HI1 := Lib.hid i1
  have HI2 := Lib.hid i2
  have HI3 := Lib.hid i3
  have HIP := Lib.hid ip
  have HCK := Lib.hid (show chkV id = 0 by unfold chkV; rw [if_pos hok])
  have HSZ := Lib.hid (idS_okTo id hok).2.1
  clear hid ht i1 i2 i3 ip hok
  have HSL := Lib.hid (show ∀ s ∈ [(⟨#[108, 111, 111, 107]⟩ : ByteArray), dec handle, id, dec tick, dec val], s.size ≤ 1000 from by
    intro s hs
    simp only [List.mem_cons, List.not_mem_nil, or_false] at hs
    rcases hs with rfl | rfl | rfl | rfl | rfl
    · decide
    · exact (by rw [dec_size]; have := itoa_len HI3.out; omega)
    · exact (by have := HSZ.out; omega)
    · exact (by rw [dec_size]; have := itoa_len HI1.out; omega)
    · exact (by rw [dec_size]; have := itoa_len HI2.out; omega))
  go_enter Tryd.func27, Tryd.ntmps27
  go_wp2_with (first
    | (go_at_call 44
       refine calls_named ?_
       intro W1 hW1
       have hb1 : Below w.heap.size w W1 := by rw [hW1]; exact balloc (Below.refl _ _) _
       have hx1 : W1.heap[w.heap.size]? = some (.cells #[.int .i64 5, .string id, .int .i64 tick, .int .i64 val, .int .i64 handle, .int .i64 mn, .int .i64 mx, .int .i64 tg, .int .i64 tol, .int .i64 win, .int .i64 hold] 30 (0, 0)) := by rw [hW1]; exact heap_alloc_new _ _
       clear hW1
       refine (verb_5 W1).mono ?_
       rintro e w2 ⟨rfl, hb2⟩
       obtain ⟨a2, a2f, a2l, a2h⟩ := box_at hb2 hx1
       have HX2 := Lib.hid a2h
       have HB2 := Lib.hid (bthen hb1 hb2)
       clear hb1 hx1 hb2 a2h)
    | (go_at_call 45
       refine (check_any id w2 HID.out).mono ?_
       rw [HCK.out]
       rintro e w3 ⟨rfl, hb3⟩
       obtain ⟨a3, a3f, a3l, a3h⟩ := box_at (hb3) HX2.out
       have HX3 := Lib.hid a3h
       have HB3 := Lib.hid (bthen HB2.out (hb3))
       clear a3h)
    | go_in)
  refine name_world ?_
  intro W1 hW1
  have hb1 : Below w.heap.size w W1 := by rw [hW1]; exact balloc HB3.out _
  have ho1 : OwnL strC 9 1 w.heap.size W1 (.slice (some ⟨w3.heap.size, 0, none⟩) 1 1) [(⟨#[108, 111, 111, 107]⟩ : ByteArray)] := by rw [hW1]; exact OwnL.lits (f := strC) (e := 9) (n := 1) w.heap.size w3 [(⟨#[108, 111, 111, 107]⟩ : ByteArray)] _ w3.heap.size 1 rfl (HB3.out.size) rfl (by decide) rfl rfl
  have hx1 : W1.heap[w.heap.size]? = some (.cells #[.int .i64 5, .string id, .int .i64 tick, .int .i64 val, .int .i64 handle, .int .i64 mn, .int .i64 mx, .int .i64 tg, .int .i64 tol, .int .i64 win, .int .i64 hold] 30 (0, 0)) := by rw [hW1]; exact (Below.heap_alloc _ _ _ (Array.getElem?_eq_some_iff.1 HX3.out).1).trans HX3.out
  clear hW1 a2 a2f a2l a3 a3f a3l
  have HX1 := Lib.hid hx1
  have HB1 := Lib.hid hb1
  have HO1 := Lib.hid ho1
  have hS00 : W1.heap[w.heap.size]? = some (.cells #[.int .i64 5, .string id, .int .i64 tick, .int .i64 val, .int .i64 handle, .int .i64 mn, .int .i64 mx, .int .i64 tg, .int .i64 tol, .int .i64 win, .int .i64 hold] 30 (0, 0)) := hx1
  have hS0 : W1.drew.heap[w.heap.size]? = some (.cells #[.int .i64 5, .string id, .int .i64 tick, .int .i64 val, .int .i64 handle, .int .i64 mn, .int .i64 mx, .int .i64 tg, .int .i64 tol, .int .i64 win, .int .i64 hold] 30 (0, 0)) := hx1
  have rl : ∀ U : World, U.heap[w.heap.size]? = some (.cells #[.int .i64 5, .string id, .int .i64 tick, .int .i64 val, .int .i64 handle, .int .i64 mn, .int .i64 mx, .int .i64 tg, .int .i64 tol, .int .i64 win, .int .i64 hold] 30 (0, 0)) → (∀ j, U.cell? ⟨w.heap.size, j, none⟩ = (#[.int .i64 5, .string id, .int .i64 tick, .int .i64 val, .int .i64 handle, .int .i64 mn, .int .i64 mx, .int .i64 tg, .int .i64 tol, .int .i64 win, .int .i64 hold] : Array Value)[j]?) := fun U hU => (box_cells (Below.refl _ _) hU).1
  clear hx1 hb1 ho1
  go_region_held3 (fun U => U.heap[w.heap.size]? = some (.cells #[.int .i64 5, .string id, .int .i64 tick, .int .i64 val, .int .i64 handle, .int .i64 mn, .int .i64 mx, .int .i64 tg, .int .i64 tol, .int .i64 win, .int .i64 hold] 30 (0, 0)))
    (first
      | with_reducible exact hS0
      | with_reducible exact HX4.out
      | with_reducible exact HX5.out
      | with_reducible exact HX7.out
      | exact (Below.heap_alloc _ _ _ (Array.getElem?_eq_some_iff.1 HX4.out).1).trans HX4.out
      | exact (Below.heap_alloc _ _ _ (Array.getElem?_eq_some_iff.1 HX5.out).1).trans HX5.out
      | exact (Below.heap_alloc _ _ _ (Array.getElem?_eq_some_iff.1 HX7.out).1).trans HX7.out
      | with_reducible exact HX6.out)
    (first
    | (have h9 := HO4.out
       refine step_appendL eStr (by rfl) (.tmp 58) (.tmp 70) (by rfl) w.heap.size [(⟨#[108, 111, 111, 107]⟩ : ByteArray)] [dec handle, id, dec tick, dec val] (.slice (some ⟨w3.heap.size, 0, none⟩) 1 1) _ (by rfl) (by rfl) (h9.below (balloc (Below.refl _ _) _)) ((OwnL.lits (f := strC) (e := 9) (n := 1) w.heap.size w4 [dec handle, id, dec tick, dec val] _ w4.heap.size 4 rfl (bthen HB1.out HB4.out).size rfl (by decide) rfl rfl).row eStr) (by simp) (by have := (bthen HB1.out HB4.out).size; simp; omega) ?_
       intro out6 A6 c6 w6 hout6 hown6 hg6 hblk6
       have hb6 : Below w.heap.size w w6 := (balloc (bthen HB1.out HB4.out) _).trans (grown_own hg6 h9 (by have := (bthen HB1.out HB4.out).size; simp; omega))
       have hx6 := (hg6.block w.heap.size (by have := (Array.getElem?_eq_some_iff.1 HX4.out).1; simp; omega) (fun e => by have := HB3.out.size; have := (Array.getElem?_eq_some_iff.1 HX3.out).1; simp [Value.ownBlock] at e; omega)).trans ((Below.heap_alloc _ _ _ (Array.getElem?_eq_some_iff.1 HX4.out).1).trans HX4.out)
       rw [show out6 = [(⟨#[108, 111, 111, 107]⟩ : ByteArray), dec handle, id, dec tick, dec val] from hout6] at hown6 ⊢
       have HO6 := Lib.hid hown6
       have HB6 := Lib.hid hb6
       have HX6 := Lib.hid hx6
       clear h9 hown6 hout6 hg6 hblk6 hb6 hx6)
    | (have h9 := HO5.out
       refine step_appendL eStr (by rfl) (.tmp 58) (.tmp 70) (by rfl) w.heap.size [(⟨#[108, 111, 111, 107]⟩ : ByteArray)] [dec handle, id, dec tick, dec val] (.slice (some ⟨w3.heap.size, 0, none⟩) 1 1) _ (by rfl) (by rfl) (h9.below (balloc (Below.refl _ _) _)) ((OwnL.lits (f := strC) (e := 9) (n := 1) w.heap.size w5 [dec handle, id, dec tick, dec val] _ w5.heap.size 4 rfl (bthen HB1.out HB5.out).size rfl (by decide) rfl rfl).row eStr) (by simp) (by have := (bthen HB1.out HB5.out).size; simp; omega) ?_
       intro out6 A6 c6 w6 hout6 hown6 hg6 hblk6
       have hb6 : Below w.heap.size w w6 := (balloc (bthen HB1.out HB5.out) _).trans (grown_own hg6 h9 (by have := (bthen HB1.out HB5.out).size; simp; omega))
       have hx6 := (hg6.block w.heap.size (by have := (Array.getElem?_eq_some_iff.1 HX5.out).1; simp; omega) (fun e => by have := HB3.out.size; have := (Array.getElem?_eq_some_iff.1 HX3.out).1; simp [Value.ownBlock] at e; omega)).trans ((Below.heap_alloc _ _ _ (Array.getElem?_eq_some_iff.1 HX5.out).1).trans HX5.out)
       rw [show out6 = [(⟨#[108, 111, 111, 107]⟩ : ByteArray), dec handle, id, dec tick, dec val] from hout6] at hown6 ⊢
       have HO6 := Lib.hid hown6
       have HB6 := Lib.hid hb6
       have HX6 := Lib.hid hx6
       clear h9 hown6 hout6 hg6 hblk6 hb6 hx6)
    | (have h9 := HO7.out
       refine step_appendL eStr (by rfl) (.tmp 58) (.tmp 70) (by rfl) w.heap.size [(⟨#[108, 111, 111, 107]⟩ : ByteArray)] [dec handle, id, dec tick, dec val] (.slice (some ⟨w3.heap.size, 0, none⟩) 1 1) _ (by rfl) (by rfl) (h9.below (balloc (Below.refl _ _) _)) ((OwnL.lits (f := strC) (e := 9) (n := 1) w.heap.size w7 [dec handle, id, dec tick, dec val] _ w7.heap.size 4 rfl (bthen HB1.out HB7.out).size rfl (by decide) rfl rfl).row eStr) (by simp) (by have := (bthen HB1.out HB7.out).size; simp; omega) ?_
       intro out6 A6 c6 w6 hout6 hown6 hg6 hblk6
       have hb6 : Below w.heap.size w w6 := (balloc (bthen HB1.out HB7.out) _).trans (grown_own hg6 h9 (by have := (bthen HB1.out HB7.out).size; simp; omega))
       have hx6 := (hg6.block w.heap.size (by have := (Array.getElem?_eq_some_iff.1 HX7.out).1; simp; omega) (fun e => by have := HB3.out.size; have := (Array.getElem?_eq_some_iff.1 HX3.out).1; simp [Value.ownBlock] at e; omega)).trans ((Below.heap_alloc _ _ _ (Array.getElem?_eq_some_iff.1 HX7.out).1).trans HX7.out)
       rw [show out6 = [(⟨#[108, 111, 111, 107]⟩ : ByteArray), dec handle, id, dec tick, dec val] from hout6] at hown6 ⊢
       have HO6 := Lib.hid hown6
       have HB6 := Lib.hid hb6
       have HX6 := Lib.hid hx6
       clear h9 hown6 hout6 hg6 hblk6 hb6 hx6)
    | (go_at_call 28
       refine calls_named ?_
       intro W2 hW2
       have hb2 : Below W1.heap.size W1 W2 := by
         rw [hW2]
         first
           | with_reducible exact Below.drew (Below.refl _ _)
           | with_reducible exact Below.refl _ _
           | with_reducible exact HB5.out
           | with_reducible exact HB7.out
       clear hW2
       refine (number_any handle HI3.out W2 (HT.out.below (bthen HB1.out hb2))).mono ?_
       rintro e w4 ⟨rfl, hb4⟩
       have hb5 := bthen hb2 hb4
       have HB4 := Lib.hid hb5
       have HO4 := Lib.hid (HO1.out.below hb5)
       have HX4 := Lib.hid ((hb5.block _ (Array.getElem?_eq_some_iff.1 HX1.out).1).trans HX1.out)
       clear hb2 hb4 hb5)
    | (go_at_call 28
       refine calls_named ?_
       intro W2 hW2
       have hb2 : Below W1.heap.size W1 W2 := by
         rw [hW2]
         first
           | with_reducible exact Below.drew (Below.refl _ _)
           | with_reducible exact Below.refl _ _
           | with_reducible exact HB4.out
           | with_reducible exact HB7.out
       clear hW2
       refine (number_any tick HI1.out W2 (HT.out.below (bthen HB1.out hb2))).mono ?_
       rintro e w5 ⟨rfl, hb4⟩
       have hb5 := bthen hb2 hb4
       have HB5 := Lib.hid hb5
       have HO5 := Lib.hid (HO1.out.below hb5)
       have HX5 := Lib.hid ((hb5.block _ (Array.getElem?_eq_some_iff.1 HX1.out).1).trans HX1.out)
       clear hb2 hb4 hb5)
    | (go_at_call 28
       refine calls_named ?_
       intro W2 hW2
       have hb2 : Below W1.heap.size W1 W2 := by
         rw [hW2]
         first
           | with_reducible exact Below.drew (Below.refl _ _)
           | with_reducible exact Below.refl _ _
           | with_reducible exact HB4.out
           | with_reducible exact HB5.out
       clear hW2
       refine (number_any val HI2.out W2 (HT.out.below (bthen HB1.out hb2))).mono ?_
       rintro e w7 ⟨rfl, hb4⟩
       have hb5 := bthen hb2 hb4
       have HB7 := Lib.hid hb5
       have HO7 := Lib.hid (HO1.out.below hb5)
       have HX7 := Lib.hid ((hb5.block _ (Array.getElem?_eq_some_iff.1 HX1.out).1).trans HX1.out)
       clear hb2 hb4 hb5))
  all_goals
    go_wp2_with (go_at_call 18
                 refine (joinO_any w.heap.size _ _ _ _ HO6.out (by simp) HSL.out (by simp)).mono ?_
                 rintro e w8 ⟨rfl, hb8⟩
                 have HB8 := Lib.hid hb8
                 clear hb8)
    go_ret2
    exact ⟨rfl, bthen HB6.out HB8.out⟩
end

end Go.Proofs.YtmndhffimlkjgaaDoor
