/- line.Text: kind by kind. -/
import Derived.Test.YtmndhffimlkjgaaDoorJ13
namespace Go.Proofs.YtmndhffimlkjgaaDoor

section
set_option linter.unusedSimpArgs false
set_option linter.unusedVariables false
open Go.RowKit Go.Lib

def strC (s : ByteArray) : List Value := [.string s]
theorem eStr : EltOf 48 9 1 16 (.string ⟨#[]⟩) strC :=
  ⟨by kernel_rfl, by kernel_rfl, rfl, by decide, by decide, fun _ => rfl, fun x u hu => by
    simp only [strC, List.mem_cons, List.not_mem_nil, or_false] at hu
    subst hu
    rfl⟩
def dec (n : Int) : ByteArray := ⟨(Lib.itoa n).toArray⟩
theorem dec_size (n : Int) : (dec n).size = (Lib.itoa n).length := by show (Lib.itoa n).toArray.size = _; simp
def joinS (ws : List ByteArray) : ByteArray := ⟨(Lib.join (ws.map (·.data.toList)) [32]).toArray⟩
theorem lens_le (ws : List ByteArray) (h : ∀ s ∈ ws, s.size ≤ 1000) : Lib.lens (ws.map (·.data.toList)) ≤ 1000 * ws.length := by
  induction ws with
  | nil => simp [Lib.lens]
  | cons s ws ih =>
    have h1 := h s (List.mem_cons_self ..)
    have h2 := ih (fun t ht => h t (List.mem_cons_of_mem _ ht))
    have h3 : s.data.toList.length = s.size := by simp
    simp only [List.map_cons, Lib.lens, List.length_cons] at h2 ⊢
    simp only [List.map_cons, List.sum_cons, List.foldr_cons, List.foldl_cons] at h2 ⊢
    omega
theorem joinO_any (base : Nat) (ws : List ByteArray) (A : Option Addr) (c : Nat) (w : World) (h : OwnL strC 9 1 base w (.slice A ws.length c) ws) (hne : ws ≠ []) (hs : ∀ s ∈ ws, s.size ≤ 1000) (hn : ws.length ≤ 100) :
    Calls Tryd.prog 18 #[.slice A ws.length c, .string ⟨#[32]⟩] w fun e w' => e = .returned (.string (joinS ws)) ∧ Below w.heap.size w w' := by
  have hr := h.row eStr
  have h0 : 0 < ws.length := by cases ws with | nil => exact absurd rfl hne | cons => simp
  obtain ⟨bb, o, rfl, hb, _⟩ := hr.at_ h0
  have hcl : ws.length ≤ c := by obtain ⟨_, _, hv, hc, _⟩ := hr; injection hv with _ _ e3; omega
  refine join_any bb o c ws ⟨#[32]⟩ w ?_ hb (by omega) hcl ?_
  · intro j x hj
    obtain ⟨hjl, hx⟩ := List.getElem?_eq_some_iff.1 hj
    obtain ⟨b', o', e, _, hc'⟩ := hr.at_ hjl
    simp only [Option.some.injEq, Addr.mk.injEq] at e
    obtain ⟨rfl, rfl, -⟩ := e
    have := hc' 0 _ rfl
    rw [Nat.add_zero, Nat.mul_one] at this
    rw [this, hx]
  · obtain ⟨x, r, rfl⟩ : ∃ x r, ws = x :: r := by cases ws with | nil => exact absurd rfl hne | cons x r => exact ⟨x, r, rfl⟩
    have h1 := lens_le (x :: r) hs
    rw [List.map_cons, Lib.join_length]
    simp only [List.map_cons, List.length_cons, List.length_map] at h1 hn ⊢
    show (1 : Nat) * _ + _ ≤ _
    omega
def TextSays (w : World) (s : ByteArray) (x : Int) (e : Ending) (w' : World) : Prop := e = .returned (.tuple #[.string s, .int .i64 x]) ∧ Below w.heap.size w w'

set_option maxRecDepth 100000 in
set_option maxHeartbeats 8000000 in
theorem ltext_bad_1 (id : ByteArray) (tick val handle mn mx tg tol win hold : Int) (w : World) (hid : id.size ≤ maxLen) (ht : Tab w) (i1 : I64 tick) (i2 : I64 val) (i3 : I64 handle) (ip : (Pol.mk mn mx tg tol win hold).ok) (hok : idS id = false) :
    Calls Tryd.prog 27 #[.agg #[.int .i64 1, .string id, .int .i64 tick, .int .i64 val, .int .i64 handle, .int .i64 mn, .int .i64 mx, .int .i64 tg, .int .i64 tol, .int .i64 win, .int .i64 hold]] w (TextSays w ⟨#[]⟩ 2) := by
  have HID := Lib.hid hid
  have HT := Lib.hid ht
  have HI1 := Lib.hid i1
  have HI2 := Lib.hid i2
  have HI3 := Lib.hid i3
  have HIP := Lib.hid ip
  have HCK := Lib.hid (show chkV id = 2 by unfold chkV; rw [hok]; rfl)
  clear hid ht i1 i2 i3 ip hok
  go_enter Tryd.func27, Tryd.ntmps27
  go_wp2_with (first
    | (go_at_call 44
       refine calls_named ?_
       intro W1 hW1
       have hb1 : Below w.heap.size w W1 := by rw [hW1]; exact balloc (Below.refl _ _) _
       have hx1 : W1.heap[w.heap.size]? = some (.cells #[.int .i64 1, .string id, .int .i64 tick, .int .i64 val, .int .i64 handle, .int .i64 mn, .int .i64 mx, .int .i64 tg, .int .i64 tol, .int .i64 win, .int .i64 hold] 30 (0, 0)) := by rw [hW1]; exact heap_alloc_new _ _
       clear hW1
       refine (verb_1 W1).mono ?_
       rintro e w2 ⟨rfl, hb2⟩
       obtain ⟨a2, a2f, a2l, a2h⟩ := box_at hb2 hx1
       have HX2 := Lib.hid a2h
       have HB2 := Lib.hid (bthen hb1 hb2)
       clear hb1 hx1 hb2 a2h)
    | (go_at_call 45
       refine (check_any id w2 HID.out).mono ?_
       rw [HCK.out]
       rintro e w3 ⟨rfl, hb3⟩
       obtain ⟨a3, a3f, a3l, a3h⟩ := box_at (hb3) HX2.out
       have HX3 := Lib.hid a3h
       have HB3 := Lib.hid (bthen HB2.out (hb3))
       clear a3h)
    | go_in)
  go_ret2
  exact ⟨rfl, HB3.out⟩

set_option maxRecDepth 100000 in
set_option maxHeartbeats 8000000 in
theorem ltext_2 (id : ByteArray) (tick val handle mn mx tg tol win hold : Int) (w : World) (hid : id.size ≤ maxLen) (ht : Tab w) (i1 : I64 tick) (i2 : I64 val) (i3 : I64 handle) (ip : (Pol.mk mn mx tg tol win hold).ok) :
    Calls Tryd.prog 27 #[.agg #[.int .i64 2, .string id, .int .i64 tick, .int .i64 val, .int .i64 handle, .int .i64 mn, .int .i64 mx, .int .i64 tg, .int .i64 tol, .int .i64 win, .int .i64 hold]] w (TextSays w (joinS [(⟨#[116, 114, 105, 109]⟩ : ByteArray), dec tick]) 0) := by
  have HID := Lib.hid hid
  have HT := Lib.hid ht
  have HI1 := Lib.hid i1
  have HI2 := Lib.hid i2
  have HI3 := Lib.hid i3
  have HIP := Lib.hid ip
  clear hid ht i1 i2 i3 ip
  have HSL := Lib.hid (show ∀ s ∈ [(⟨#[116, 114, 105, 109]⟩ : ByteArray), dec tick], s.size ≤ 1000 from by
    intro s hs
    simp only [List.mem_cons, List.not_mem_nil, or_false] at hs
    rcases hs with rfl | rfl
    · decide
    · exact (by rw [dec_size]; have := itoa_len HI1.out; omega))
  go_enter Tryd.func27, Tryd.ntmps27
  go_wp2_with (first
    | (go_at_call 44
       refine calls_named ?_
       intro W1 hW1
       have hb1 : Below w.heap.size w W1 := by rw [hW1]; exact balloc (Below.refl _ _) _
       have hx1 : W1.heap[w.heap.size]? = some (.cells #[.int .i64 2, .string id, .int .i64 tick, .int .i64 val, .int .i64 handle, .int .i64 mn, .int .i64 mx, .int .i64 tg, .int .i64 tol, .int .i64 win, .int .i64 hold] 30 (0, 0)) := by rw [hW1]; exact heap_alloc_new _ _
       clear hW1
       refine (verb_2 W1).mono ?_
       rintro e w2 ⟨rfl, hb2⟩
       obtain ⟨a2, a2f, a2l, a2h⟩ := box_at hb2 hx1
       have HX2 := Lib.hid a2h
       have HB2 := Lib.hid (bthen hb1 hb2)
       clear hb1 hx1 hb2 a2h)
    | (go_at_call 45
       refine (check_any id w2 HID.out).mono ?_
       rintro e w3 ⟨rfl, hb3⟩
       obtain ⟨a3, a3f, a3l, a3h⟩ := box_at (hb3) HX2.out
       have HX3 := Lib.hid a3h
       have HB3 := Lib.hid (bthen HB2.out (hb3))
       clear a3h)
    | (go_at_call 28
       refine calls_named ?_
       intro W4 hW4
       have hb4a : Below w3.heap.size w3 W4 := by rw [hW4]; exact balloc (Below.refl _ _) _
       have ho4 : OwnL strC 9 1 w.heap.size W4 (.slice (some ⟨w3.heap.size, 0, none⟩) 1 1) [(⟨#[116, 114, 105, 109]⟩ : ByteArray)] := by rw [hW4]; exact OwnL.lits (f := strC) (e := 9) (n := 1) w.heap.size w3 [(⟨#[116, 114, 105, 109]⟩ : ByteArray)] _ w3.heap.size 1 rfl (HB3.out.size) rfl (by decide) rfl rfl
       clear hW4
       refine (number_any tick HI1.out W4 (HT.out.below (bthen HB3.out hb4a))).mono ?_
       rintro e w4 ⟨rfl, hb4⟩
       have HO4 := Lib.hid (ho4.below hb4)
       have HB4 := Lib.hid (bthen HB3.out (bthen hb4a hb4))
       clear hb4 hb4a ho4)
    | (at_builtin
       refine wpList_appendL eStr (by rfl) (by rfl) w.heap.size [(⟨#[116, 114, 105, 109]⟩ : ByteArray)] [dec tick] (.slice (some ⟨w3.heap.size, 0, none⟩) 1 1) _ (by rfl) (by rfl) (HO4.out.below (balloc (Below.refl _ _) _)) (RowIn.lit w4 (dec tick) _ _ w4.heap.size rfl rfl) (by simp) (by have := HB4.out.size; simp; omega) ?_
       intro out5 A5 c5 w5 hout5 hown5 hg5 _
       have hb5 : Below w.heap.size w w5 := (balloc HB4.out _).trans (grown_own hg5 HO4.out (by have := HB4.out.size; simp; omega))
       rw [show out5 = [(⟨#[116, 114, 105, 109]⟩ : ByteArray), dec tick] from hout5] at hown5 ⊢
       have HO5 := Lib.hid hown5
       have HB5 := Lib.hid hb5
       clear hout5 hown5 hg5 hb5)
    | (go_at_call 18
       refine (joinO_any w.heap.size _ _ _ _ HO5.out (by simp) HSL.out (by simp)).mono ?_
       rintro e w8 ⟨rfl, hb8⟩
       have HB8 := Lib.hid hb8
       clear hb8)
    | go_in)
  go_ret2
  exact ⟨rfl, bthen HB5.out HB8.out⟩

set_option maxRecDepth 100000 in
set_option maxHeartbeats 8000000 in
theorem ltext_3 (id : ByteArray) (tick val handle mn mx tg tol win hold : Int) (w : World) (hid : id.size ≤ maxLen) (ht : Tab w) (i1 : I64 tick) (i2 : I64 val) (i3 : I64 handle) (ip : (Pol.mk mn mx tg tol win hold).ok) :
    Calls Tryd.prog 27 #[.agg #[.int .i64 3, .string id, .int .i64 tick, .int .i64 val, .int .i64 handle, .int .i64 mn, .int .i64 mx, .int .i64 tg, .int .i64 tol, .int .i64 win, .int .i64 hold]] w (TextSays w (joinS [(⟨#[115, 110, 97, 112]⟩ : ByteArray)]) 0) := by
  have HID := Lib.hid hid
  have HT := Lib.hid ht
  have HI1 := Lib.hid i1
  have HI2 := Lib.hid i2
  have HI3 := Lib.hid i3
  have HIP := Lib.hid ip
  clear hid ht i1 i2 i3 ip
  have HSL := Lib.hid (show ∀ s ∈ [(⟨#[115, 110, 97, 112]⟩ : ByteArray)], s.size ≤ 1000 from by
    intro s hs
    simp only [List.mem_cons, List.not_mem_nil, or_false] at hs
    subst hs
    · decide)
  go_enter Tryd.func27, Tryd.ntmps27
  go_wp2_with (first
    | (go_at_call 44
       refine calls_named ?_
       intro W1 hW1
       have hb1 : Below w.heap.size w W1 := by rw [hW1]; exact balloc (Below.refl _ _) _
       have hx1 : W1.heap[w.heap.size]? = some (.cells #[.int .i64 3, .string id, .int .i64 tick, .int .i64 val, .int .i64 handle, .int .i64 mn, .int .i64 mx, .int .i64 tg, .int .i64 tol, .int .i64 win, .int .i64 hold] 30 (0, 0)) := by rw [hW1]; exact heap_alloc_new _ _
       clear hW1
       refine (verb_3 W1).mono ?_
       rintro e w2 ⟨rfl, hb2⟩
       obtain ⟨a2, a2f, a2l, a2h⟩ := box_at hb2 hx1
       have HX2 := Lib.hid a2h
       have HB2 := Lib.hid (bthen hb1 hb2)
       clear hb1 hx1 hb2 a2h)
    | (go_at_call 45
       refine (check_any id w2 HID.out).mono ?_
       rintro e w3 ⟨rfl, hb3⟩
       obtain ⟨a3, a3f, a3l, a3h⟩ := box_at (hb3) HX2.out
       have HX3 := Lib.hid a3h
       have HB3 := Lib.hid (bthen HB2.out (hb3))
       clear a3h)
    | (go_at_call 18
       refine (joinO_any w.heap.size _ _ _ _ (OwnL.lits (f := strC) (e := 9) (n := 1) w.heap.size w3 [(⟨#[115, 110, 97, 112]⟩ : ByteArray)] _ w3.heap.size 1 rfl (HB3.out.size) rfl (by decide) rfl rfl) (by simp) HSL.out (by decide)).mono ?_
       rintro e w8 ⟨rfl, hb8⟩
       have HB8 := Lib.hid hb8
       clear hb8)
    | go_in)
  go_ret2
  exact ⟨rfl, bthen (balloc HB3.out _) HB8.out⟩

set_option maxRecDepth 100000 in
set_option maxHeartbeats 8000000 in
theorem ltext_4 (id : ByteArray) (tick val handle mn mx tg tol win hold : Int) (w : World) (hid : id.size ≤ maxLen) (ht : Tab w) (i1 : I64 tick) (i2 : I64 val) (i3 : I64 handle) (ip : (Pol.mk mn mx tg tol win hold).ok) :
    Calls Tryd.prog 27 #[.agg #[.int .i64 4, .string id, .int .i64 tick, .int .i64 val, .int .i64 handle, .int .i64 mn, .int .i64 mx, .int .i64 tg, .int .i64 tol, .int .i64 win, .int .i64 hold]] w (TextSays w (joinS [(⟨#[102, 114, 101, 101]⟩ : ByteArray), dec handle]) 0) := by
  have HID := Lib.hid hid
  have HT := Lib.hid ht
  have HI1 := Lib.hid i1
  have HI2 := Lib.hid i2
  have HI3 := Lib.hid i3
  have HIP := Lib.hid ip
  clear hid ht i1 i2 i3 ip
  have HSL := Lib.hid (show ∀ s ∈ [(⟨#[102, 114, 101, 101]⟩ : ByteArray), dec handle], s.size ≤ 1000 from by
    intro s hs
    simp only [List.mem_cons, List.not_mem_nil, or_false] at hs
    rcases hs with rfl | rfl
    · decide
    · exact (by rw [dec_size]; have := itoa_len HI3.out; omega))
  go_enter Tryd.func27, Tryd.ntmps27
  go_wp2_with (first
    | (go_at_call 44
       refine calls_named ?_
       intro W1 hW1
       have hb1 : Below w.heap.size w W1 := by rw [hW1]; exact balloc (Below.refl _ _) _
       have hx1 : W1.heap[w.heap.size]? = some (.cells #[.int .i64 4, .string id, .int .i64 tick, .int .i64 val, .int .i64 handle, .int .i64 mn, .int .i64 mx, .int .i64 tg, .int .i64 tol, .int .i64 win, .int .i64 hold] 30 (0, 0)) := by rw [hW1]; exact heap_alloc_new _ _
       clear hW1
       refine (verb_4 W1).mono ?_
       rintro e w2 ⟨rfl, hb2⟩
       obtain ⟨a2, a2f, a2l, a2h⟩ := box_at hb2 hx1
       have HX2 := Lib.hid a2h
       have HB2 := Lib.hid (bthen hb1 hb2)
       clear hb1 hx1 hb2 a2h)
    | (go_at_call 45
       refine (check_any id w2 HID.out).mono ?_
       rintro e w3 ⟨rfl, hb3⟩
       obtain ⟨a3, a3f, a3l, a3h⟩ := box_at (hb3) HX2.out
       have HX3 := Lib.hid a3h
       have HB3 := Lib.hid (bthen HB2.out (hb3))
       clear a3h)
    | (go_at_call 28
       refine calls_named ?_
       intro W4 hW4
       have hb4a : Below w3.heap.size w3 W4 := by rw [hW4]; exact balloc (Below.refl _ _) _
       have ho4 : OwnL strC 9 1 w.heap.size W4 (.slice (some ⟨w3.heap.size, 0, none⟩) 1 1) [(⟨#[102, 114, 101, 101]⟩ : ByteArray)] := by rw [hW4]; exact OwnL.lits (f := strC) (e := 9) (n := 1) w.heap.size w3 [(⟨#[102, 114, 101, 101]⟩ : ByteArray)] _ w3.heap.size 1 rfl (HB3.out.size) rfl (by decide) rfl rfl
       clear hW4
       refine (number_any handle HI3.out W4 (HT.out.below (bthen HB3.out hb4a))).mono ?_
       rintro e w4 ⟨rfl, hb4⟩
       have HO4 := Lib.hid (ho4.below hb4)
       have HB4 := Lib.hid (bthen HB3.out (bthen hb4a hb4))
       clear hb4 hb4a ho4)
    | (at_builtin
       refine wpList_appendL eStr (by rfl) (by rfl) w.heap.size [(⟨#[102, 114, 101, 101]⟩ : ByteArray)] [dec handle] (.slice (some ⟨w3.heap.size, 0, none⟩) 1 1) _ (by rfl) (by rfl) (HO4.out.below (balloc (Below.refl _ _) _)) (RowIn.lit w4 (dec handle) _ _ w4.heap.size rfl rfl) (by simp) (by have := HB4.out.size; simp; omega) ?_
       intro out5 A5 c5 w5 hout5 hown5 hg5 _
       have hb5 : Below w.heap.size w w5 := (balloc HB4.out _).trans (grown_own hg5 HO4.out (by have := HB4.out.size; simp; omega))
       rw [show out5 = [(⟨#[102, 114, 101, 101]⟩ : ByteArray), dec handle] from hout5] at hown5 ⊢
       have HO5 := Lib.hid hown5
       have HB5 := Lib.hid hb5
       clear hout5 hown5 hg5 hb5)
    | (go_at_call 18
       refine (joinO_any w.heap.size _ _ _ _ HO5.out (by simp) HSL.out (by simp)).mono ?_
       rintro e w8 ⟨rfl, hb8⟩
       have HB8 := Lib.hid hb8
       clear hb8)
    | go_in)
  go_ret2
  exact ⟨rfl, bthen HB5.out HB8.out⟩

set_option maxRecDepth 100000 in
set_option maxHeartbeats 8000000 in
theorem ltext_bad_5 (id : ByteArray) (tick val handle mn mx tg tol win hold : Int) (w : World) (hid : id.size ≤ maxLen) (ht : Tab w) (i1 : I64 tick) (i2 : I64 val) (i3 : I64 handle) (ip : (Pol.mk mn mx tg tol win hold).ok) (hok : idS id = false) :
    Calls Tryd.prog 27 #[.agg #[.int .i64 5, .string id, .int .i64 tick, .int .i64 val, .int .i64 handle, .int .i64 mn, .int .i64 mx, .int .i64 tg, .int .i64 tol, .int .i64 win, .int .i64 hold]] w (TextSays w ⟨#[]⟩ 2) := by
  have HID := Lib.hid hid
  have HT := Lib.hid ht
  have HI1 := Lib.hid i1
  have HI2 := Lib.hid i2
  have HI3 := Lib.hid i3
  have HIP := Lib.hid ip
  have HCK := Lib.hid (show chkV id = 2 by unfold chkV; rw [hok]; rfl)
  clear hid ht i1 i2 i3 ip hok
  go_enter Tryd.func27, Tryd.ntmps27
  go_wp2_with (first
    | (go_at_call 44
       refine calls_named ?_
       intro W1 hW1
       have hb1 : Below w.heap.size w W1 := by rw [hW1]; exact balloc (Below.refl _ _) _
       have hx1 : W1.heap[w.heap.size]? = some (.cells #[.int .i64 5, .string id, .int .i64 tick, .int .i64 val, .int .i64 handle, .int .i64 mn, .int .i64 mx, .int .i64 tg, .int .i64 tol, .int .i64 win, .int .i64 hold] 30 (0, 0)) := by rw [hW1]; exact heap_alloc_new _ _
       clear hW1
       refine (verb_5 W1).mono ?_
       rintro e w2 ⟨rfl, hb2⟩
       obtain ⟨a2, a2f, a2l, a2h⟩ := box_at hb2 hx1
       have HX2 := Lib.hid a2h
       have HB2 := Lib.hid (bthen hb1 hb2)
       clear hb1 hx1 hb2 a2h)
    | (go_at_call 45
       refine (check_any id w2 HID.out).mono ?_
       rw [HCK.out]
       rintro e w3 ⟨rfl, hb3⟩
       obtain ⟨a3, a3f, a3l, a3h⟩ := box_at (hb3) HX2.out
       have HX3 := Lib.hid a3h
       have HB3 := Lib.hid (bthen HB2.out (hb3))
       clear a3h)
    | go_in)
  go_ret2
  exact ⟨rfl, HB3.out⟩

set_option maxRecDepth 100000 in
set_option maxHeartbeats 8000000 in
theorem ltext_bad_6 (id : ByteArray) (tick val handle mn mx tg tol win hold : Int) (w : World) (hid : id.size ≤ maxLen) (ht : Tab w) (i1 : I64 tick) (i2 : I64 val) (i3 : I64 handle) (ip : (Pol.mk mn mx tg tol win hold).ok) (hok : idS id = false) :
    Calls Tryd.prog 27 #[.agg #[.int .i64 6, .string id, .int .i64 tick, .int .i64 val, .int .i64 handle, .int .i64 mn, .int .i64 mx, .int .i64 tg, .int .i64 tol, .int .i64 win, .int .i64 hold]] w (TextSays w ⟨#[]⟩ 2) := by
  have HID := Lib.hid hid
  have HT := Lib.hid ht
  have HI1 := Lib.hid i1
  have HI2 := Lib.hid i2
  have HI3 := Lib.hid i3
  have HIP := Lib.hid ip
  have HCK := Lib.hid (show chkV id = 2 by unfold chkV; rw [hok]; rfl)
  clear hid ht i1 i2 i3 ip hok
  go_enter Tryd.func27, Tryd.ntmps27
  go_wp2_with (first
    | (go_at_call 44
       refine calls_named ?_
       intro W1 hW1
       have hb1 : Below w.heap.size w W1 := by rw [hW1]; exact balloc (Below.refl _ _) _
       have hx1 : W1.heap[w.heap.size]? = some (.cells #[.int .i64 6, .string id, .int .i64 tick, .int .i64 val, .int .i64 handle, .int .i64 mn, .int .i64 mx, .int .i64 tg, .int .i64 tol, .int .i64 win, .int .i64 hold] 30 (0, 0)) := by rw [hW1]; exact heap_alloc_new _ _
       clear hW1
       refine (verb_6 W1).mono ?_
       rintro e w2 ⟨rfl, hb2⟩
       obtain ⟨a2, a2f, a2l, a2h⟩ := box_at hb2 hx1
       have HX2 := Lib.hid a2h
       have HB2 := Lib.hid (bthen hb1 hb2)
       clear hb1 hx1 hb2 a2h)
    | (go_at_call 45
       refine (check_any id w2 HID.out).mono ?_
       rw [HCK.out]
       rintro e w3 ⟨rfl, hb3⟩
       obtain ⟨a3, a3f, a3l, a3h⟩ := box_at (hb3) HX2.out
       have HX3 := Lib.hid a3h
       have HB3 := Lib.hid (bthen HB2.out (hb3))
       clear a3h)
    | go_in)
  go_ret2
  exact ⟨rfl, HB3.out⟩

set_option maxRecDepth 100000 in
set_option maxHeartbeats 8000000 in
theorem ltext_bad_7 (id : ByteArray) (tick val handle mn mx tg tol win hold : Int) (w : World) (hid : id.size ≤ maxLen) (ht : Tab w) (i1 : I64 tick) (i2 : I64 val) (i3 : I64 handle) (ip : (Pol.mk mn mx tg tol win hold).ok) (hok : idS id = false) :
    Calls Tryd.prog 27 #[.agg #[.int .i64 7, .string id, .int .i64 tick, .int .i64 val, .int .i64 handle, .int .i64 mn, .int .i64 mx, .int .i64 tg, .int .i64 tol, .int .i64 win, .int .i64 hold]] w (TextSays w ⟨#[]⟩ 2) := by
  have HID := Lib.hid hid
  have HT := Lib.hid ht
  have HI1 := Lib.hid i1
  have HI2 := Lib.hid i2
  have HI3 := Lib.hid i3
  have HIP := Lib.hid ip
  have HCK := Lib.hid (show chkV id = 2 by unfold chkV; rw [hok]; rfl)
  clear hid ht i1 i2 i3 ip hok
  go_enter Tryd.func27, Tryd.ntmps27
  go_wp2_with (first
    | (go_at_call 44
       refine calls_named ?_
       intro W1 hW1
       have hb1 : Below w.heap.size w W1 := by rw [hW1]; exact balloc (Below.refl _ _) _
       have hx1 : W1.heap[w.heap.size]? = some (.cells #[.int .i64 7, .string id, .int .i64 tick, .int .i64 val, .int .i64 handle, .int .i64 mn, .int .i64 mx, .int .i64 tg, .int .i64 tol, .int .i64 win, .int .i64 hold] 30 (0, 0)) := by rw [hW1]; exact heap_alloc_new _ _
       clear hW1
       refine (verb_7 W1).mono ?_
       rintro e w2 ⟨rfl, hb2⟩
       obtain ⟨a2, a2f, a2l, a2h⟩ := box_at hb2 hx1
       have HX2 := Lib.hid a2h
       have HB2 := Lib.hid (bthen hb1 hb2)
       clear hb1 hx1 hb2 a2h)
    | (go_at_call 45
       refine (check_any id w2 HID.out).mono ?_
       rw [HCK.out]
       rintro e w3 ⟨rfl, hb3⟩
       obtain ⟨a3, a3f, a3l, a3h⟩ := box_at (hb3) HX2.out
       have HX3 := Lib.hid a3h
       have HB3 := Lib.hid (bthen HB2.out (hb3))
       clear a3h)
    | go_in)
  go_ret2
  exact ⟨rfl, HB3.out⟩

set_option maxRecDepth 100000 in
set_option maxHeartbeats 8000000 in
theorem ltext_7 (id : ByteArray) (tick val handle mn mx tg tol win hold : Int) (w : World) (hid : id.size ≤ maxLen) (ht : Tab w) (i1 : I64 tick) (i2 : I64 val) (i3 : I64 handle) (ip : (Pol.mk mn mx tg tol win hold).ok) (hok : idS id = true) :
    Calls Tryd.prog 27 #[.agg #[.int .i64 7, .string id, .int .i64 tick, .int .i64 val, .int .i64 handle, .int .i64 mn, .int .i64 mx, .int .i64 tg, .int .i64 tol, .int .i64 win, .int .i64 hold]] w (TextSays w (joinS [(⟨#[114, 101, 97, 100]⟩ : ByteArray), id]) 0) := by
  have HID := Lib.hid hid
  have HT := Lib.hid ht
  have HI1 := Lib.hid i1
  have HI2 := Lib.hid i2
  have HI3 := Lib.hid i3
  have HIP := Lib.hid ip
  have HCK := Lib.hid (show chkV id = 0 by unfold chkV; rw [if_pos hok])
  have HSZ := Lib.hid (idS_okTo id hok).2.1
  clear hid ht i1 i2 i3 ip hok
  have HSL := Lib.hid (show ∀ s ∈ [(⟨#[114, 101, 97, 100]⟩ : ByteArray), id], s.size ≤ 1000 from by
    intro s hs
    simp only [List.mem_cons, List.not_mem_nil, or_false] at hs
    rcases hs with rfl | rfl
    · decide
    · exact (by have := HSZ.out; omega))
  go_enter Tryd.func27, Tryd.ntmps27
  go_wp2_with (first
    | (go_at_call 44
       refine calls_named ?_
       intro W1 hW1
       have hb1 : Below w.heap.size w W1 := by rw [hW1]; exact balloc (Below.refl _ _) _
       have hx1 : W1.heap[w.heap.size]? = some (.cells #[.int .i64 7, .string id, .int .i64 tick, .int .i64 val, .int .i64 handle, .int .i64 mn, .int .i64 mx, .int .i64 tg, .int .i64 tol, .int .i64 win, .int .i64 hold] 30 (0, 0)) := by rw [hW1]; exact heap_alloc_new _ _
       clear hW1
       refine (verb_7 W1).mono ?_
       rintro e w2 ⟨rfl, hb2⟩
       obtain ⟨a2, a2f, a2l, a2h⟩ := box_at hb2 hx1
       have HX2 := Lib.hid a2h
       have HB2 := Lib.hid (bthen hb1 hb2)
       clear hb1 hx1 hb2 a2h)
    | (go_at_call 45
       refine (check_any id w2 HID.out).mono ?_
       rw [HCK.out]
       rintro e w3 ⟨rfl, hb3⟩
       obtain ⟨a3, a3f, a3l, a3h⟩ := box_at (hb3) HX2.out
       have HX3 := Lib.hid a3h
       have HB3 := Lib.hid (bthen HB2.out (hb3))
       clear a3h)
    | (at_builtin
       refine wpList_appendL eStr (by rfl) (by rfl) w.heap.size [(⟨#[114, 101, 97, 100]⟩ : ByteArray)] [id] (.slice (some ⟨w3.heap.size, 0, none⟩) 1 1) _ (by rfl) (by rfl) ((OwnL.lits (f := strC) (e := 9) (n := 1) w.heap.size w3 [(⟨#[114, 101, 97, 100]⟩ : ByteArray)] _ w3.heap.size 1 rfl (HB3.out.size) rfl (by decide) rfl rfl).below (balloc (Below.refl _ _) _)) (RowIn.lit _ id _ _ (w3.heap.size + 1) (by simp) rfl) (by simp) (by have := HB3.out.size; simp; omega) ?_
       intro out5 A5 c5 w5 hout5 hown5 hg5 _
       have hb5 : Below w.heap.size w w5 := (balloc (balloc HB3.out _) _).trans (grown_own hg5 (OwnL.lits (f := strC) (e := 9) (n := 1) w.heap.size w3 [(⟨#[114, 101, 97, 100]⟩ : ByteArray)] _ w3.heap.size 1 rfl (HB3.out.size) rfl (by decide) rfl rfl) (by have := HB3.out.size; simp; omega))
       rw [show out5 = [(⟨#[114, 101, 97, 100]⟩ : ByteArray), id] from hout5] at hown5 ⊢
       have HO5 := Lib.hid hown5
       have HB5 := Lib.hid hb5
       clear hout5 hown5 hg5 hb5)
    | (go_at_call 18
       refine (joinO_any w.heap.size _ _ _ _ HO5.out (by simp) HSL.out (by simp)).mono ?_
       rintro e w8 ⟨rfl, hb8⟩
       have HB8 := Lib.hid hb8
       clear hb8)
    | go_in)
  go_ret2
  exact ⟨rfl, bthen HB5.out HB8.out⟩

set_option maxRecDepth 100000 in
set_option maxHeartbeats 8000000 in
theorem ltext_8 (id : ByteArray) (tick val handle mn mx tg tol win hold : Int) (w : World) (hid : id.size ≤ maxLen) (ht : Tab w) (i1 : I64 tick) (i2 : I64 val) (i3 : I64 handle) (ip : (Pol.mk mn mx tg tol win hold).ok) :
    Calls Tryd.prog 27 #[.agg #[.int .i64 8, .string id, .int .i64 tick, .int .i64 val, .int .i64 handle, .int .i64 mn, .int .i64 mx, .int .i64 tg, .int .i64 tol, .int .i64 win, .int .i64 hold]] w (TextSays w (joinS [(⟨#[115, 104, 117, 116]⟩ : ByteArray)]) 0) := by
  have HID := Lib.hid hid
  have HT := Lib.hid ht
  have HI1 := Lib.hid i1
  have HI2 := Lib.hid i2
  have HI3 := Lib.hid i3
  have HIP := Lib.hid ip
  clear hid ht i1 i2 i3 ip
  have HSL := Lib.hid (show ∀ s ∈ [(⟨#[115, 104, 117, 116]⟩ : ByteArray)], s.size ≤ 1000 from by
    intro s hs
    simp only [List.mem_cons, List.not_mem_nil, or_false] at hs
    subst hs
    · decide)
  go_enter Tryd.func27, Tryd.ntmps27
  go_wp2_with (first
    | (go_at_call 44
       refine calls_named ?_
       intro W1 hW1
       have hb1 : Below w.heap.size w W1 := by rw [hW1]; exact balloc (Below.refl _ _) _
       have hx1 : W1.heap[w.heap.size]? = some (.cells #[.int .i64 8, .string id, .int .i64 tick, .int .i64 val, .int .i64 handle, .int .i64 mn, .int .i64 mx, .int .i64 tg, .int .i64 tol, .int .i64 win, .int .i64 hold] 30 (0, 0)) := by rw [hW1]; exact heap_alloc_new _ _
       clear hW1
       refine (verb_8 W1).mono ?_
       rintro e w2 ⟨rfl, hb2⟩
       obtain ⟨a2, a2f, a2l, a2h⟩ := box_at hb2 hx1
       have HX2 := Lib.hid a2h
       have HB2 := Lib.hid (bthen hb1 hb2)
       clear hb1 hx1 hb2 a2h)
    | (go_at_call 45
       refine (check_any id w2 HID.out).mono ?_
       rintro e w3 ⟨rfl, hb3⟩
       obtain ⟨a3, a3f, a3l, a3h⟩ := box_at (hb3) HX2.out
       have HX3 := Lib.hid a3h
       have HB3 := Lib.hid (bthen HB2.out (hb3))
       clear a3h)
    | (go_at_call 18
       refine (joinO_any w.heap.size _ _ _ _ (OwnL.lits (f := strC) (e := 9) (n := 1) w.heap.size w3 [(⟨#[115, 104, 117, 116]⟩ : ByteArray)] _ w3.heap.size 1 rfl (HB3.out.size) rfl (by decide) rfl rfl) (by simp) HSL.out (by decide)).mono ?_
       rintro e w8 ⟨rfl, hb8⟩
       have HB8 := Lib.hid hb8
       clear hb8)
    | go_in)
  go_ret2
  exact ⟨rfl, bthen (balloc HB3.out _) HB8.out⟩

set_option maxRecDepth 100000 in
set_option maxHeartbeats 4000000 in
theorem ltext_lo (k : Int) (hk : k < 1) (id : ByteArray) (tick val handle mn mx tg tol win hold : Int) (w : World) :
    Calls Tryd.prog 27 #[.agg #[.int .i64 k, .string id, .int .i64 tick, .int .i64 val, .int .i64 handle, .int .i64 mn, .int .i64 mx, .int .i64 tg, .int .i64 tol, .int .i64 win, .int .i64 hold]] w (TextSays w ⟨#[]⟩ 14) := by
  go_enter Tryd.func27, Tryd.ntmps27
  go_wp2_with (first | (go_at_call 44; refine (verb_lo k hk _).mono ?_; rintro e w2 ⟨rfl, hb2⟩))
  go_ret2
  exact ⟨rfl, bthen (balloc (Below.refl _ _) _) hb2⟩

set_option maxRecDepth 100000 in
set_option maxHeartbeats 4000000 in
theorem ltext_hi (k : Int) (hk : ¬ k < 1) (hk8 : 8 < k) (id : ByteArray) (tick val handle mn mx tg tol win hold : Int) (w : World) :
    Calls Tryd.prog 27 #[.agg #[.int .i64 k, .string id, .int .i64 tick, .int .i64 val, .int .i64 handle, .int .i64 mn, .int .i64 mx, .int .i64 tg, .int .i64 tol, .int .i64 win, .int .i64 hold]] w (TextSays w ⟨#[]⟩ 14) := by
  go_enter Tryd.func27, Tryd.ntmps27
  go_wp2_with (first | (go_at_call 44; refine (verb_hi k hk hk8 _).mono ?_; rintro e w2 ⟨rfl, hb2⟩))
  go_ret2
  exact ⟨rfl, bthen (balloc (Below.refl _ _) _) hb2⟩
end

end Go.Proofs.YtmndhffimlkjgaaDoor
