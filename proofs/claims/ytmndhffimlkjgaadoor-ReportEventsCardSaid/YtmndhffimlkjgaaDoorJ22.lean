/- report.Event: an event's line. -/
import Derived.Test.YtmndhffimlkjgaaDoorJ16
import Derived.Test.YtmndhffimlkjgaaDoorJ21
namespace Go.Proofs.YtmndhffimlkjgaaDoor

section
set_option linter.unusedSimpArgs false
set_option linter.unusedVariables false
open Go.RowKit Go.Lib

section
variable (k task nth ck : Int) (cid : ByteArray) (ct cv ch mn mx tg tol win hold err epoch handle cnt sum least most mean atick aload awant arepl awhy : Int) (hi lo : Nat) (ntick nload nwant nrepl nwhy : Int)
set_option maxRecDepth 100000 in
set_option maxHeartbeats 8000000 in
theorem pev_1 (w : World) (d0 d1 s t : ByteArray) (CT : (∀ W, Below w.heap.size w W → Calls Tryd.prog 13 #[.int .i64 task] W fun e w' => e = .returned (.string d0) ∧ Below W.heap.size W w')) (CN : (∀ W, Below w.heap.size w W → Calls Tryd.prog 13 #[.int .i64 nth] W fun e w' => e = .returned (.string d1) ∧ Below W.heap.size W w')) (CC : (∀ W, Below w.heap.size w W → Calls Tryd.prog 14 #[.agg #[.int .i64 ck, .string cid, .int .i64 ct, .int .i64 cv, .int .i64 ch, .int .i64 mn, .int .i64 mx, .int .i64 tg, .int .i64 tol, .int .i64 win, .int .i64 hold]] W fun e w' => e = .returned (.string s) ∧ Below W.heap.size W w')) (z0 : d0.size ≤ 1000) (z1 : d1.size ≤ 1000) (z2 : s.size ≤ 1000) (z3 : t.size ≤ 1000) :
    Calls Tryd.prog 6 #[.agg #[.int .i64 1, .int .i64 task, .int .i64 nth, .int .i64 ck, .string cid, .int .i64 ct, .int .i64 cv, .int .i64 ch, .int .i64 mn, .int .i64 mx, .int .i64 tg, .int .i64 tol, .int .i64 win, .int .i64 hold, .int .i64 err, .int .i64 epoch, .int .i64 handle, .int .i64 cnt, .int .i64 sum, .int .i64 least, .int .i64 most, .int .i64 mean, .int .i64 atick, .int .i64 aload, .int .i64 awant, .int .i64 arepl, .int .i64 awhy, .int .u64 (hi : Nat), .int .u64 (lo : Nat), .int .i64 ntick, .int .i64 nload, .int .i64 nwant, .int .i64 nrepl, .int .i64 nwhy]] w fun e w' => e = .returned (.string (joinS [d0, d1, (⟨#[99, 97, 108, 108]⟩ : ByteArray), s])) ∧ Below w.heap.size w w' := by
  have HZ := Lib.hid (show ∀ x ∈ [d0, d1, (⟨#[99, 97, 108, 108]⟩ : ByteArray), s], x.size ≤ 1000 from by
    intro x hx
    simp only [List.mem_cons, List.not_mem_nil, or_false] at hx
    rcases hx with rfl | rfl | rfl | rfl <;> first | assumption | decide)
  have C0 := Lib.hid CT
  have C1 := Lib.hid CN
  have C2 := Lib.hid CC
  clear CC
  clear CT CN z0 z1 z2 z3
  go_enter Tryd.func6, Tryd.ntmps6
  go_wp2_with (first
    | (go_at_call 13
       have h9 := HB2.out
       refine calls_named ?_
       intro W3 hW3
       have hb3 : Below w2.heap.size w2 W3 := by rw [hW3]; exact balloc (Below.refl _ _) _
       have ho3 : OwnL strC 9 1 w.heap.size W3 (.slice (some ⟨w2.heap.size, 0, none⟩) 1 1) [d0] := by rw [hW3]; exact OwnL.lits (f := strC) (e := 9) (n := 1) w.heap.size w2 [d0] _ w2.heap.size 1 rfl HB2.out.size rfl (by decide) rfl rfl
       clear hW3
       with_reducible refine (C1.out _ (bthen HB2.out hb3)).mono ?_
       rintro e w4 ⟨rfl, hb4⟩
       obtain ⟨a4, a4f, a4l, a4h⟩ := box_at (bthen hb3 hb4) HX2.out
       have HX4 := Lib.hid a4h
       have HB4 := Lib.hid (bthen HB2.out (bthen hb3 hb4))
       have HO4 := Lib.hid (ho3.below hb4)
       clear h9 hb3 ho3 hb4 a4h a2 a2f a2l)
    | (go_at_call 13
       refine calls_named ?_
       intro W1 hW1
       have hb1 : Below w.heap.size w W1 := by rw [hW1]; exact balloc (Below.refl _ _) _
       have hx1 : W1.heap[w.heap.size]? = some (.cells #[.int .i64 1, .int .i64 task, .int .i64 nth, .int .i64 ck, .string cid, .int .i64 ct, .int .i64 cv, .int .i64 ch, .int .i64 mn, .int .i64 mx, .int .i64 tg, .int .i64 tol, .int .i64 win, .int .i64 hold, .int .i64 err, .int .i64 epoch, .int .i64 handle, .int .i64 cnt, .int .i64 sum, .int .i64 least, .int .i64 most, .int .i64 mean, .int .i64 atick, .int .i64 aload, .int .i64 awant, .int .i64 arepl, .int .i64 awhy, .int .u64 (hi : Nat), .int .u64 (lo : Nat), .int .i64 ntick, .int .i64 nload, .int .i64 nwant, .int .i64 nrepl, .int .i64 nwhy] 44 (0, 0)) := by rw [hW1]; exact heap_alloc_new _ _
       clear hW1
       with_reducible refine (C0.out _ hb1).mono ?_
       rintro e w2 ⟨rfl, hb2⟩
       obtain ⟨a2, a2f, a2l, a2h⟩ := box_at hb2 hx1
       have HX2 := Lib.hid a2h
       have HB2 := Lib.hid (bthen hb1 hb2)
       clear hb1 hx1 hb2 a2h)
    | (go_at_call 14
       with_reducible refine (C2.out _ HB4.out).mono ?_
       rintro e w5 ⟨rfl, hb5⟩
       have HB5 := Lib.hid (bthen HB4.out hb5)
       have HO5 := Lib.hid (HO4.out.below hb5)
       clear hb5)
    | (at_builtin
       refine wpList_appendL eStr (by rfl) (by rfl) w.heap.size [d0] [d1, (⟨#[99, 97, 108, 108]⟩ : ByteArray), s] (.slice (some ⟨w2.heap.size, 0, none⟩) 1 1) _ (by rfl) (by rfl) (HO5.out.below (balloc (Below.refl _ _) _)) ((OwnL.lits (f := strC) (e := 9) (n := 1) w.heap.size w5 [d1, (⟨#[99, 97, 108, 108]⟩ : ByteArray), s] _ w5.heap.size 3 rfl HB5.out.size rfl (by decide) rfl rfl).row eStr) (by simp) (by have := HB5.out.size; simp; omega) ?_
       intro out6 A6 c6 w6 hout6 hown6 hg6 _
       have hb6 : Below w.heap.size w w6 := (balloc HB5.out _).trans (grown_own hg6 HO5.out (by have := HB5.out.size; simp; omega))
       rw [show out6 = [d0, d1, (⟨#[99, 97, 108, 108]⟩ : ByteArray), s] from hout6] at hown6 ⊢
       have HO6 := Lib.hid hown6
       have HB6 := Lib.hid hb6
       clear hout6 hown6 hg6 hb6)
    | (go_at_call 18
       refine (joinO_any w.heap.size _ _ _ _ HO6.out (by simp) HZ.out (by simp)).mono ?_
       rintro e w8 ⟨rfl, hb8⟩
       have HB8 := Lib.hid hb8
       clear hb8))
  go_ret
  exact ⟨rfl, bthen HB6.out HB8.out⟩

set_option maxRecDepth 100000 in
set_option maxHeartbeats 8000000 in
theorem pev_2 (w : World) (d0 d1 s t : ByteArray) (CT : (∀ W, Below w.heap.size w W → Calls Tryd.prog 13 #[.int .i64 task] W fun e w' => e = .returned (.string d0) ∧ Below W.heap.size W w')) (CN : (∀ W, Below w.heap.size w W → Calls Tryd.prog 13 #[.int .i64 nth] W fun e w' => e = .returned (.string d1) ∧ Below W.heap.size W w')) (CC : (∀ W, Below w.heap.size w W → Calls Tryd.prog 15 #[.agg #[.int .i64 err, .int .i64 epoch, .int .i64 handle, .int .i64 cnt, .int .i64 sum, .int .i64 least, .int .i64 most, .int .i64 mean, .int .i64 atick, .int .i64 aload, .int .i64 awant, .int .i64 arepl, .int .i64 awhy]] W fun e w' => e = .returned (.string s) ∧ Below W.heap.size W w')) (z0 : d0.size ≤ 1000) (z1 : d1.size ≤ 1000) (z2 : s.size ≤ 1000) (z3 : t.size ≤ 1000) :
    Calls Tryd.prog 6 #[.agg #[.int .i64 2, .int .i64 task, .int .i64 nth, .int .i64 ck, .string cid, .int .i64 ct, .int .i64 cv, .int .i64 ch, .int .i64 mn, .int .i64 mx, .int .i64 tg, .int .i64 tol, .int .i64 win, .int .i64 hold, .int .i64 err, .int .i64 epoch, .int .i64 handle, .int .i64 cnt, .int .i64 sum, .int .i64 least, .int .i64 most, .int .i64 mean, .int .i64 atick, .int .i64 aload, .int .i64 awant, .int .i64 arepl, .int .i64 awhy, .int .u64 (hi : Nat), .int .u64 (lo : Nat), .int .i64 ntick, .int .i64 nload, .int .i64 nwant, .int .i64 nrepl, .int .i64 nwhy]] w fun e w' => e = .returned (.string (joinS [d0, d1, (⟨#[112, 111, 105, 110, 116]⟩ : ByteArray), s])) ∧ Below w.heap.size w w' := by
  have HZ := Lib.hid (show ∀ x ∈ [d0, d1, (⟨#[112, 111, 105, 110, 116]⟩ : ByteArray), s], x.size ≤ 1000 from by
    intro x hx
    simp only [List.mem_cons, List.not_mem_nil, or_false] at hx
    rcases hx with rfl | rfl | rfl | rfl <;> first | assumption | decide)
  have C0 := Lib.hid CT
  have C1 := Lib.hid CN
  have C2 := Lib.hid CC
  clear CC
  clear CT CN z0 z1 z2 z3
  go_enter Tryd.func6, Tryd.ntmps6
  go_wp2_with (first
    | (go_at_call 13
       have h9 := HB2.out
       refine calls_named ?_
       intro W3 hW3
       have hb3 : Below w2.heap.size w2 W3 := by rw [hW3]; exact balloc (Below.refl _ _) _
       have ho3 : OwnL strC 9 1 w.heap.size W3 (.slice (some ⟨w2.heap.size, 0, none⟩) 1 1) [d0] := by rw [hW3]; exact OwnL.lits (f := strC) (e := 9) (n := 1) w.heap.size w2 [d0] _ w2.heap.size 1 rfl HB2.out.size rfl (by decide) rfl rfl
       clear hW3
       with_reducible refine (C1.out _ (bthen HB2.out hb3)).mono ?_
       rintro e w4 ⟨rfl, hb4⟩
       obtain ⟨a4, a4f, a4l, a4h⟩ := box_at (bthen hb3 hb4) HX2.out
       have HX4 := Lib.hid a4h
       have HB4 := Lib.hid (bthen HB2.out (bthen hb3 hb4))
       have HO4 := Lib.hid (ho3.below hb4)
       clear h9 hb3 ho3 hb4 a4h a2 a2f a2l)
    | (go_at_call 13
       refine calls_named ?_
       intro W1 hW1
       have hb1 : Below w.heap.size w W1 := by rw [hW1]; exact balloc (Below.refl _ _) _
       have hx1 : W1.heap[w.heap.size]? = some (.cells #[.int .i64 2, .int .i64 task, .int .i64 nth, .int .i64 ck, .string cid, .int .i64 ct, .int .i64 cv, .int .i64 ch, .int .i64 mn, .int .i64 mx, .int .i64 tg, .int .i64 tol, .int .i64 win, .int .i64 hold, .int .i64 err, .int .i64 epoch, .int .i64 handle, .int .i64 cnt, .int .i64 sum, .int .i64 least, .int .i64 most, .int .i64 mean, .int .i64 atick, .int .i64 aload, .int .i64 awant, .int .i64 arepl, .int .i64 awhy, .int .u64 (hi : Nat), .int .u64 (lo : Nat), .int .i64 ntick, .int .i64 nload, .int .i64 nwant, .int .i64 nrepl, .int .i64 nwhy] 44 (0, 0)) := by rw [hW1]; exact heap_alloc_new _ _
       clear hW1
       with_reducible refine (C0.out _ hb1).mono ?_
       rintro e w2 ⟨rfl, hb2⟩
       obtain ⟨a2, a2f, a2l, a2h⟩ := box_at hb2 hx1
       have HX2 := Lib.hid a2h
       have HB2 := Lib.hid (bthen hb1 hb2)
       clear hb1 hx1 hb2 a2h)
    | (go_at_call 15
       with_reducible refine (C2.out _ HB4.out).mono ?_
       rintro e w5 ⟨rfl, hb5⟩
       have HB5 := Lib.hid (bthen HB4.out hb5)
       have HO5 := Lib.hid (HO4.out.below hb5)
       clear hb5)
    | (at_builtin
       refine wpList_appendL eStr (by rfl) (by rfl) w.heap.size [d0] [d1, (⟨#[112, 111, 105, 110, 116]⟩ : ByteArray), s] (.slice (some ⟨w2.heap.size, 0, none⟩) 1 1) _ (by rfl) (by rfl) (HO5.out.below (balloc (Below.refl _ _) _)) ((OwnL.lits (f := strC) (e := 9) (n := 1) w.heap.size w5 [d1, (⟨#[112, 111, 105, 110, 116]⟩ : ByteArray), s] _ w5.heap.size 3 rfl HB5.out.size rfl (by decide) rfl rfl).row eStr) (by simp) (by have := HB5.out.size; simp; omega) ?_
       intro out6 A6 c6 w6 hout6 hown6 hg6 _
       have hb6 : Below w.heap.size w w6 := (balloc HB5.out _).trans (grown_own hg6 HO5.out (by have := HB5.out.size; simp; omega))
       rw [show out6 = [d0, d1, (⟨#[112, 111, 105, 110, 116]⟩ : ByteArray), s] from hout6] at hown6 ⊢
       have HO6 := Lib.hid hown6
       have HB6 := Lib.hid hb6
       clear hout6 hown6 hg6 hb6)
    | (go_at_call 18
       refine (joinO_any w.heap.size _ _ _ _ HO6.out (by simp) HZ.out (by simp)).mono ?_
       rintro e w8 ⟨rfl, hb8⟩
       have HB8 := Lib.hid hb8
       clear hb8))
  go_ret
  exact ⟨rfl, bthen HB6.out HB8.out⟩

set_option maxRecDepth 100000 in
set_option maxHeartbeats 8000000 in
theorem pev_3 (w : World) (d0 d1 s t : ByteArray) (CT : (∀ W, Below w.heap.size w W → Calls Tryd.prog 13 #[.int .i64 task] W fun e w' => e = .returned (.string d0) ∧ Below W.heap.size W w')) (CN : (∀ W, Below w.heap.size w W → Calls Tryd.prog 13 #[.int .i64 nth] W fun e w' => e = .returned (.string d1) ∧ Below W.heap.size W w')) (CC : (∀ W, Below w.heap.size w W → Calls Tryd.prog 15 #[.agg #[.int .i64 err, .int .i64 epoch, .int .i64 handle, .int .i64 cnt, .int .i64 sum, .int .i64 least, .int .i64 most, .int .i64 mean, .int .i64 atick, .int .i64 aload, .int .i64 awant, .int .i64 arepl, .int .i64 awhy]] W fun e w' => e = .returned (.string s) ∧ Below W.heap.size W w')) (z0 : d0.size ≤ 1000) (z1 : d1.size ≤ 1000) (z2 : s.size ≤ 1000) (z3 : t.size ≤ 1000) :
    Calls Tryd.prog 6 #[.agg #[.int .i64 3, .int .i64 task, .int .i64 nth, .int .i64 ck, .string cid, .int .i64 ct, .int .i64 cv, .int .i64 ch, .int .i64 mn, .int .i64 mx, .int .i64 tg, .int .i64 tol, .int .i64 win, .int .i64 hold, .int .i64 err, .int .i64 epoch, .int .i64 handle, .int .i64 cnt, .int .i64 sum, .int .i64 least, .int .i64 most, .int .i64 mean, .int .i64 atick, .int .i64 aload, .int .i64 awant, .int .i64 arepl, .int .i64 awhy, .int .u64 (hi : Nat), .int .u64 (lo : Nat), .int .i64 ntick, .int .i64 nload, .int .i64 nwant, .int .i64 nrepl, .int .i64 nwhy]] w fun e w' => e = .returned (.string (joinS [d0, d1, (⟨#[114, 101, 116, 117, 114, 110]⟩ : ByteArray), s])) ∧ Below w.heap.size w w' := by
  have HZ := Lib.hid (show ∀ x ∈ [d0, d1, (⟨#[114, 101, 116, 117, 114, 110]⟩ : ByteArray), s], x.size ≤ 1000 from by
    intro x hx
    simp only [List.mem_cons, List.not_mem_nil, or_false] at hx
    rcases hx with rfl | rfl | rfl | rfl <;> first | assumption | decide)
  have C0 := Lib.hid CT
  have C1 := Lib.hid CN
  have C2 := Lib.hid CC
  clear CC
  clear CT CN z0 z1 z2 z3
  go_enter Tryd.func6, Tryd.ntmps6
  go_wp2_with (first
    | (go_at_call 13
       have h9 := HB2.out
       refine calls_named ?_
       intro W3 hW3
       have hb3 : Below w2.heap.size w2 W3 := by rw [hW3]; exact balloc (Below.refl _ _) _
       have ho3 : OwnL strC 9 1 w.heap.size W3 (.slice (some ⟨w2.heap.size, 0, none⟩) 1 1) [d0] := by rw [hW3]; exact OwnL.lits (f := strC) (e := 9) (n := 1) w.heap.size w2 [d0] _ w2.heap.size 1 rfl HB2.out.size rfl (by decide) rfl rfl
       clear hW3
       with_reducible refine (C1.out _ (bthen HB2.out hb3)).mono ?_
       rintro e w4 ⟨rfl, hb4⟩
       obtain ⟨a4, a4f, a4l, a4h⟩ := box_at (bthen hb3 hb4) HX2.out
       have HX4 := Lib.hid a4h
       have HB4 := Lib.hid (bthen HB2.out (bthen hb3 hb4))
       have HO4 := Lib.hid (ho3.below hb4)
       clear h9 hb3 ho3 hb4 a4h a2 a2f a2l)
    | (go_at_call 13
       refine calls_named ?_
       intro W1 hW1
       have hb1 : Below w.heap.size w W1 := by rw [hW1]; exact balloc (Below.refl _ _) _
       have hx1 : W1.heap[w.heap.size]? = some (.cells #[.int .i64 3, .int .i64 task, .int .i64 nth, .int .i64 ck, .string cid, .int .i64 ct, .int .i64 cv, .int .i64 ch, .int .i64 mn, .int .i64 mx, .int .i64 tg, .int .i64 tol, .int .i64 win, .int .i64 hold, .int .i64 err, .int .i64 epoch, .int .i64 handle, .int .i64 cnt, .int .i64 sum, .int .i64 least, .int .i64 most, .int .i64 mean, .int .i64 atick, .int .i64 aload, .int .i64 awant, .int .i64 arepl, .int .i64 awhy, .int .u64 (hi : Nat), .int .u64 (lo : Nat), .int .i64 ntick, .int .i64 nload, .int .i64 nwant, .int .i64 nrepl, .int .i64 nwhy] 44 (0, 0)) := by rw [hW1]; exact heap_alloc_new _ _
       clear hW1
       with_reducible refine (C0.out _ hb1).mono ?_
       rintro e w2 ⟨rfl, hb2⟩
       obtain ⟨a2, a2f, a2l, a2h⟩ := box_at hb2 hx1
       have HX2 := Lib.hid a2h
       have HB2 := Lib.hid (bthen hb1 hb2)
       clear hb1 hx1 hb2 a2h)
    | (go_at_call 15
       with_reducible refine (C2.out _ HB4.out).mono ?_
       rintro e w5 ⟨rfl, hb5⟩
       have HB5 := Lib.hid (bthen HB4.out hb5)
       have HO5 := Lib.hid (HO4.out.below hb5)
       clear hb5)
    | (at_builtin
       refine wpList_appendL eStr (by rfl) (by rfl) w.heap.size [d0] [d1, (⟨#[114, 101, 116, 117, 114, 110]⟩ : ByteArray), s] (.slice (some ⟨w2.heap.size, 0, none⟩) 1 1) _ (by rfl) (by rfl) (HO5.out.below (balloc (Below.refl _ _) _)) ((OwnL.lits (f := strC) (e := 9) (n := 1) w.heap.size w5 [d1, (⟨#[114, 101, 116, 117, 114, 110]⟩ : ByteArray), s] _ w5.heap.size 3 rfl HB5.out.size rfl (by decide) rfl rfl).row eStr) (by simp) (by have := HB5.out.size; simp; omega) ?_
       intro out6 A6 c6 w6 hout6 hown6 hg6 _
       have hb6 : Below w.heap.size w w6 := (balloc HB5.out _).trans (grown_own hg6 HO5.out (by have := HB5.out.size; simp; omega))
       rw [show out6 = [d0, d1, (⟨#[114, 101, 116, 117, 114, 110]⟩ : ByteArray), s] from hout6] at hown6 ⊢
       have HO6 := Lib.hid hown6
       have HB6 := Lib.hid hb6
       clear hout6 hown6 hg6 hb6)
    | (go_at_call 18
       refine (joinO_any w.heap.size _ _ _ _ HO6.out (by simp) HZ.out (by simp)).mono ?_
       rintro e w8 ⟨rfl, hb8⟩
       have HB8 := Lib.hid hb8
       clear hb8))
  go_ret
  exact ⟨rfl, bthen HB6.out HB8.out⟩

set_option maxRecDepth 100000 in
set_option maxHeartbeats 8000000 in
theorem pev_4 (w : World) (d0 d1 s t : ByteArray) (CT : (∀ W, Below w.heap.size w W → Calls Tryd.prog 13 #[.int .i64 task] W fun e w' => e = .returned (.string d0) ∧ Below W.heap.size W w')) (CN : (∀ W, Below w.heap.size w W → Calls Tryd.prog 13 #[.int .i64 nth] W fun e w' => e = .returned (.string d1) ∧ Below W.heap.size W w')) (CC : (∀ W, Below w.heap.size w W → Calls Tryd.prog 16 #[.agg #[.int .u64 (hi : Nat), .int .u64 (lo : Nat)]] W fun e w' => e = .returned (.string s) ∧ Below W.heap.size W w')) (z0 : d0.size ≤ 1000) (z1 : d1.size ≤ 1000) (z2 : s.size ≤ 1000) (z3 : t.size ≤ 1000) :
    Calls Tryd.prog 6 #[.agg #[.int .i64 4, .int .i64 task, .int .i64 nth, .int .i64 ck, .string cid, .int .i64 ct, .int .i64 cv, .int .i64 ch, .int .i64 mn, .int .i64 mx, .int .i64 tg, .int .i64 tol, .int .i64 win, .int .i64 hold, .int .i64 err, .int .i64 epoch, .int .i64 handle, .int .i64 cnt, .int .i64 sum, .int .i64 least, .int .i64 most, .int .i64 mean, .int .i64 atick, .int .i64 aload, .int .i64 awant, .int .i64 arepl, .int .i64 awhy, .int .u64 (hi : Nat), .int .u64 (lo : Nat), .int .i64 ntick, .int .i64 nload, .int .i64 nwant, .int .i64 nrepl, .int .i64 nwhy]] w fun e w' => e = .returned (.string (joinS [d0, (⟨#[116, 111, 111, 107]⟩ : ByteArray), s])) ∧ Below w.heap.size w w' := by
  have HZ := Lib.hid (show ∀ x ∈ [d0, (⟨#[116, 111, 111, 107]⟩ : ByteArray), s], x.size ≤ 1000 from by
    intro x hx
    simp only [List.mem_cons, List.not_mem_nil, or_false] at hx
    rcases hx with rfl | rfl | rfl <;> first | assumption | decide)
  have C0 := Lib.hid CT
  have C1 := Lib.hid CN
  have C2 := Lib.hid CC
  clear CC
  clear CT CN z0 z1 z2 z3
  go_enter Tryd.func6, Tryd.ntmps6
  go_wp2_with (first
    | (go_at_call 13
       have h9 := HB2.out
       refine calls_named ?_
       intro W3 hW3
       have hb3 : Below w2.heap.size w2 W3 := by rw [hW3]; exact balloc (Below.refl _ _) _
       have ho3 : OwnL strC 9 1 w.heap.size W3 (.slice (some ⟨w2.heap.size, 0, none⟩) 1 1) [d0] := by rw [hW3]; exact OwnL.lits (f := strC) (e := 9) (n := 1) w.heap.size w2 [d0] _ w2.heap.size 1 rfl HB2.out.size rfl (by decide) rfl rfl
       clear hW3
       with_reducible refine (C1.out _ (bthen HB2.out hb3)).mono ?_
       rintro e w4 ⟨rfl, hb4⟩
       obtain ⟨a4, a4f, a4l, a4h⟩ := box_at (bthen hb3 hb4) HX2.out
       have HX4 := Lib.hid a4h
       have HB4 := Lib.hid (bthen HB2.out (bthen hb3 hb4))
       have HO4 := Lib.hid (ho3.below hb4)
       clear h9 hb3 ho3 hb4 a4h a2 a2f a2l)
    | (go_at_call 13
       refine calls_named ?_
       intro W1 hW1
       have hb1 : Below w.heap.size w W1 := by rw [hW1]; exact balloc (Below.refl _ _) _
       have hx1 : W1.heap[w.heap.size]? = some (.cells #[.int .i64 4, .int .i64 task, .int .i64 nth, .int .i64 ck, .string cid, .int .i64 ct, .int .i64 cv, .int .i64 ch, .int .i64 mn, .int .i64 mx, .int .i64 tg, .int .i64 tol, .int .i64 win, .int .i64 hold, .int .i64 err, .int .i64 epoch, .int .i64 handle, .int .i64 cnt, .int .i64 sum, .int .i64 least, .int .i64 most, .int .i64 mean, .int .i64 atick, .int .i64 aload, .int .i64 awant, .int .i64 arepl, .int .i64 awhy, .int .u64 (hi : Nat), .int .u64 (lo : Nat), .int .i64 ntick, .int .i64 nload, .int .i64 nwant, .int .i64 nrepl, .int .i64 nwhy] 44 (0, 0)) := by rw [hW1]; exact heap_alloc_new _ _
       clear hW1
       with_reducible refine (C0.out _ hb1).mono ?_
       rintro e w2 ⟨rfl, hb2⟩
       obtain ⟨a2, a2f, a2l, a2h⟩ := box_at hb2 hx1
       have HX2 := Lib.hid a2h
       have HB2 := Lib.hid (bthen hb1 hb2)
       clear hb1 hx1 hb2 a2h)
    | (go_at_call 16
       with_reducible refine (C2.out _ HB4.out).mono ?_
       rintro e w5 ⟨rfl, hb5⟩
       have HB5 := Lib.hid (bthen HB4.out hb5)
       have HO5 := Lib.hid (HO4.out.below hb5)
       clear hb5)
    | (at_builtin
       refine wpList_appendL eStr (by rfl) (by rfl) w.heap.size [d0] [(⟨#[116, 111, 111, 107]⟩ : ByteArray), s] (.slice (some ⟨w2.heap.size, 0, none⟩) 1 1) _ (by rfl) (by rfl) (HO5.out.below (balloc (Below.refl _ _) _)) ((OwnL.lits (f := strC) (e := 9) (n := 1) w.heap.size w5 [(⟨#[116, 111, 111, 107]⟩ : ByteArray), s] _ w5.heap.size 2 rfl HB5.out.size rfl (by decide) rfl rfl).row eStr) (by simp) (by have := HB5.out.size; simp; omega) ?_
       intro out6 A6 c6 w6 hout6 hown6 hg6 _
       have hb6 : Below w.heap.size w w6 := (balloc HB5.out _).trans (grown_own hg6 HO5.out (by have := HB5.out.size; simp; omega))
       rw [show out6 = [d0, (⟨#[116, 111, 111, 107]⟩ : ByteArray), s] from hout6] at hown6 ⊢
       have HO6 := Lib.hid hown6
       have HB6 := Lib.hid hb6
       clear hout6 hown6 hg6 hb6)
    | (go_at_call 18
       refine (joinO_any w.heap.size _ _ _ _ HO6.out (by simp) HZ.out (by simp)).mono ?_
       rintro e w8 ⟨rfl, hb8⟩
       have HB8 := Lib.hid hb8
       clear hb8))
  go_ret
  exact ⟨rfl, bthen HB6.out HB8.out⟩

set_option maxRecDepth 100000 in
set_option maxHeartbeats 8000000 in
theorem pev_5 (w : World) (d0 d1 s t : ByteArray) (CT : (∀ W, Below w.heap.size w W → Calls Tryd.prog 13 #[.int .i64 task] W fun e w' => e = .returned (.string d0) ∧ Below W.heap.size W w')) (CN : (∀ W, Below w.heap.size w W → Calls Tryd.prog 13 #[.int .i64 nth] W fun e w' => e = .returned (.string d1) ∧ Below W.heap.size W w')) (CC : (∀ W, Below w.heap.size w W → Calls Tryd.prog 16 #[.agg #[.int .u64 (hi : Nat), .int .u64 (lo : Nat)]] W fun e w' => e = .returned (.string s) ∧ Below W.heap.size W w')) (z0 : d0.size ≤ 1000) (z1 : d1.size ≤ 1000) (z2 : s.size ≤ 1000) (z3 : t.size ≤ 1000) :
    Calls Tryd.prog 6 #[.agg #[.int .i64 5, .int .i64 task, .int .i64 nth, .int .i64 ck, .string cid, .int .i64 ct, .int .i64 cv, .int .i64 ch, .int .i64 mn, .int .i64 mx, .int .i64 tg, .int .i64 tol, .int .i64 win, .int .i64 hold, .int .i64 err, .int .i64 epoch, .int .i64 handle, .int .i64 cnt, .int .i64 sum, .int .i64 least, .int .i64 most, .int .i64 mean, .int .i64 atick, .int .i64 aload, .int .i64 awant, .int .i64 arepl, .int .i64 awhy, .int .u64 (hi : Nat), .int .u64 (lo : Nat), .int .i64 ntick, .int .i64 nload, .int .i64 nwant, .int .i64 nrepl, .int .i64 nwhy]] w fun e w' => e = .returned (.string (joinS [d0, (⟨#[115, 97, 119]⟩ : ByteArray), s])) ∧ Below w.heap.size w w' := by
  have HZ := Lib.hid (show ∀ x ∈ [d0, (⟨#[115, 97, 119]⟩ : ByteArray), s], x.size ≤ 1000 from by
    intro x hx
    simp only [List.mem_cons, List.not_mem_nil, or_false] at hx
    rcases hx with rfl | rfl | rfl <;> first | assumption | decide)
  have C0 := Lib.hid CT
  have C1 := Lib.hid CN
  have C2 := Lib.hid CC
  clear CC
  clear CT CN z0 z1 z2 z3
  go_enter Tryd.func6, Tryd.ntmps6
  go_wp2_with (first
    | (go_at_call 13
       have h9 := HB2.out
       refine calls_named ?_
       intro W3 hW3
       have hb3 : Below w2.heap.size w2 W3 := by rw [hW3]; exact balloc (Below.refl _ _) _
       have ho3 : OwnL strC 9 1 w.heap.size W3 (.slice (some ⟨w2.heap.size, 0, none⟩) 1 1) [d0] := by rw [hW3]; exact OwnL.lits (f := strC) (e := 9) (n := 1) w.heap.size w2 [d0] _ w2.heap.size 1 rfl HB2.out.size rfl (by decide) rfl rfl
       clear hW3
       with_reducible refine (C1.out _ (bthen HB2.out hb3)).mono ?_
       rintro e w4 ⟨rfl, hb4⟩
       obtain ⟨a4, a4f, a4l, a4h⟩ := box_at (bthen hb3 hb4) HX2.out
       have HX4 := Lib.hid a4h
       have HB4 := Lib.hid (bthen HB2.out (bthen hb3 hb4))
       have HO4 := Lib.hid (ho3.below hb4)
       clear h9 hb3 ho3 hb4 a4h a2 a2f a2l)
    | (go_at_call 13
       refine calls_named ?_
       intro W1 hW1
       have hb1 : Below w.heap.size w W1 := by rw [hW1]; exact balloc (Below.refl _ _) _
       have hx1 : W1.heap[w.heap.size]? = some (.cells #[.int .i64 5, .int .i64 task, .int .i64 nth, .int .i64 ck, .string cid, .int .i64 ct, .int .i64 cv, .int .i64 ch, .int .i64 mn, .int .i64 mx, .int .i64 tg, .int .i64 tol, .int .i64 win, .int .i64 hold, .int .i64 err, .int .i64 epoch, .int .i64 handle, .int .i64 cnt, .int .i64 sum, .int .i64 least, .int .i64 most, .int .i64 mean, .int .i64 atick, .int .i64 aload, .int .i64 awant, .int .i64 arepl, .int .i64 awhy, .int .u64 (hi : Nat), .int .u64 (lo : Nat), .int .i64 ntick, .int .i64 nload, .int .i64 nwant, .int .i64 nrepl, .int .i64 nwhy] 44 (0, 0)) := by rw [hW1]; exact heap_alloc_new _ _
       clear hW1
       with_reducible refine (C0.out _ hb1).mono ?_
       rintro e w2 ⟨rfl, hb2⟩
       obtain ⟨a2, a2f, a2l, a2h⟩ := box_at hb2 hx1
       have HX2 := Lib.hid a2h
       have HB2 := Lib.hid (bthen hb1 hb2)
       clear hb1 hx1 hb2 a2h)
    | (go_at_call 16
       with_reducible refine (C2.out _ HB4.out).mono ?_
       rintro e w5 ⟨rfl, hb5⟩
       have HB5 := Lib.hid (bthen HB4.out hb5)
       have HO5 := Lib.hid (HO4.out.below hb5)
       clear hb5)
    | (at_builtin
       refine wpList_appendL eStr (by rfl) (by rfl) w.heap.size [d0] [(⟨#[115, 97, 119]⟩ : ByteArray), s] (.slice (some ⟨w2.heap.size, 0, none⟩) 1 1) _ (by rfl) (by rfl) (HO5.out.below (balloc (Below.refl _ _) _)) ((OwnL.lits (f := strC) (e := 9) (n := 1) w.heap.size w5 [(⟨#[115, 97, 119]⟩ : ByteArray), s] _ w5.heap.size 2 rfl HB5.out.size rfl (by decide) rfl rfl).row eStr) (by simp) (by have := HB5.out.size; simp; omega) ?_
       intro out6 A6 c6 w6 hout6 hown6 hg6 _
       have hb6 : Below w.heap.size w w6 := (balloc HB5.out _).trans (grown_own hg6 HO5.out (by have := HB5.out.size; simp; omega))
       rw [show out6 = [d0, (⟨#[115, 97, 119]⟩ : ByteArray), s] from hout6] at hown6 ⊢
       have HO6 := Lib.hid hown6
       have HB6 := Lib.hid hb6
       clear hout6 hown6 hg6 hb6)
    | (go_at_call 18
       refine (joinO_any w.heap.size _ _ _ _ HO6.out (by simp) HZ.out (by simp)).mono ?_
       rintro e w8 ⟨rfl, hb8⟩
       have HB8 := Lib.hid hb8
       clear hb8))
  go_ret
  exact ⟨rfl, bthen HB6.out HB8.out⟩

set_option maxRecDepth 100000 in
set_option maxHeartbeats 8000000 in
theorem pev_7 (w : World) (d0 d1 s t : ByteArray) (CT : (∀ W, Below w.heap.size w W → Calls Tryd.prog 13 #[.int .i64 task] W fun e w' => e = .returned (.string d0) ∧ Below W.heap.size W w')) (CN : (∀ W, Below w.heap.size w W → Calls Tryd.prog 13 #[.int .i64 nth] W fun e w' => e = .returned (.string d1) ∧ Below W.heap.size W w')) (CC : (∀ W, Below w.heap.size w W → Calls Tryd.prog 16 #[.agg #[.int .u64 (hi : Nat), .int .u64 (lo : Nat)]] W fun e w' => e = .returned (.string s) ∧ Below W.heap.size W w')) (z0 : d0.size ≤ 1000) (z1 : d1.size ≤ 1000) (z2 : s.size ≤ 1000) (z3 : t.size ≤ 1000) :
    Calls Tryd.prog 6 #[.agg #[.int .i64 7, .int .i64 task, .int .i64 nth, .int .i64 ck, .string cid, .int .i64 ct, .int .i64 cv, .int .i64 ch, .int .i64 mn, .int .i64 mx, .int .i64 tg, .int .i64 tol, .int .i64 win, .int .i64 hold, .int .i64 err, .int .i64 epoch, .int .i64 handle, .int .i64 cnt, .int .i64 sum, .int .i64 least, .int .i64 most, .int .i64 mean, .int .i64 atick, .int .i64 aload, .int .i64 awant, .int .i64 arepl, .int .i64 awhy, .int .u64 (hi : Nat), .int .u64 (lo : Nat), .int .i64 ntick, .int .i64 nload, .int .i64 nwant, .int .i64 nrepl, .int .i64 nwhy]] w fun e w' => e = .returned (.string (joinS [d0, (⟨#[103, 97, 118, 101]⟩ : ByteArray), s])) ∧ Below w.heap.size w w' := by
  have HZ := Lib.hid (show ∀ x ∈ [d0, (⟨#[103, 97, 118, 101]⟩ : ByteArray), s], x.size ≤ 1000 from by
    intro x hx
    simp only [List.mem_cons, List.not_mem_nil, or_false] at hx
    rcases hx with rfl | rfl | rfl <;> first | assumption | decide)
  have C0 := Lib.hid CT
  have C1 := Lib.hid CN
  have C2 := Lib.hid CC
  clear CC
  clear CT CN z0 z1 z2 z3
  go_enter Tryd.func6, Tryd.ntmps6
  go_wp2_with (first
    | (go_at_call 13
       have h9 := HB2.out
       refine calls_named ?_
       intro W3 hW3
       have hb3 : Below w2.heap.size w2 W3 := by rw [hW3]; exact balloc (Below.refl _ _) _
       have ho3 : OwnL strC 9 1 w.heap.size W3 (.slice (some ⟨w2.heap.size, 0, none⟩) 1 1) [d0] := by rw [hW3]; exact OwnL.lits (f := strC) (e := 9) (n := 1) w.heap.size w2 [d0] _ w2.heap.size 1 rfl HB2.out.size rfl (by decide) rfl rfl
       clear hW3
       with_reducible refine (C1.out _ (bthen HB2.out hb3)).mono ?_
       rintro e w4 ⟨rfl, hb4⟩
       obtain ⟨a4, a4f, a4l, a4h⟩ := box_at (bthen hb3 hb4) HX2.out
       have HX4 := Lib.hid a4h
       have HB4 := Lib.hid (bthen HB2.out (bthen hb3 hb4))
       have HO4 := Lib.hid (ho3.below hb4)
       clear h9 hb3 ho3 hb4 a4h a2 a2f a2l)
    | (go_at_call 13
       refine calls_named ?_
       intro W1 hW1
       have hb1 : Below w.heap.size w W1 := by rw [hW1]; exact balloc (Below.refl _ _) _
       have hx1 : W1.heap[w.heap.size]? = some (.cells #[.int .i64 7, .int .i64 task, .int .i64 nth, .int .i64 ck, .string cid, .int .i64 ct, .int .i64 cv, .int .i64 ch, .int .i64 mn, .int .i64 mx, .int .i64 tg, .int .i64 tol, .int .i64 win, .int .i64 hold, .int .i64 err, .int .i64 epoch, .int .i64 handle, .int .i64 cnt, .int .i64 sum, .int .i64 least, .int .i64 most, .int .i64 mean, .int .i64 atick, .int .i64 aload, .int .i64 awant, .int .i64 arepl, .int .i64 awhy, .int .u64 (hi : Nat), .int .u64 (lo : Nat), .int .i64 ntick, .int .i64 nload, .int .i64 nwant, .int .i64 nrepl, .int .i64 nwhy] 44 (0, 0)) := by rw [hW1]; exact heap_alloc_new _ _
       clear hW1
       with_reducible refine (C0.out _ hb1).mono ?_
       rintro e w2 ⟨rfl, hb2⟩
       obtain ⟨a2, a2f, a2l, a2h⟩ := box_at hb2 hx1
       have HX2 := Lib.hid a2h
       have HB2 := Lib.hid (bthen hb1 hb2)
       clear hb1 hx1 hb2 a2h)
    | (go_at_call 16
       with_reducible refine (C2.out _ HB4.out).mono ?_
       rintro e w5 ⟨rfl, hb5⟩
       have HB5 := Lib.hid (bthen HB4.out hb5)
       have HO5 := Lib.hid (HO4.out.below hb5)
       clear hb5)
    | (at_builtin
       refine wpList_appendL eStr (by rfl) (by rfl) w.heap.size [d0] [(⟨#[103, 97, 118, 101]⟩ : ByteArray), s] (.slice (some ⟨w2.heap.size, 0, none⟩) 1 1) _ (by rfl) (by rfl) (HO5.out.below (balloc (Below.refl _ _) _)) ((OwnL.lits (f := strC) (e := 9) (n := 1) w.heap.size w5 [(⟨#[103, 97, 118, 101]⟩ : ByteArray), s] _ w5.heap.size 2 rfl HB5.out.size rfl (by decide) rfl rfl).row eStr) (by simp) (by have := HB5.out.size; simp; omega) ?_
       intro out6 A6 c6 w6 hout6 hown6 hg6 _
       have hb6 : Below w.heap.size w w6 := (balloc HB5.out _).trans (grown_own hg6 HO5.out (by have := HB5.out.size; simp; omega))
       rw [show out6 = [d0, (⟨#[103, 97, 118, 101]⟩ : ByteArray), s] from hout6] at hown6 ⊢
       have HO6 := Lib.hid hown6
       have HB6 := Lib.hid hb6
       clear hout6 hown6 hg6 hb6)
    | (go_at_call 18
       refine (joinO_any w.heap.size _ _ _ _ HO6.out (by simp) HZ.out (by simp)).mono ?_
       rintro e w8 ⟨rfl, hb8⟩
       have HB8 := Lib.hid hb8
       clear hb8))
  go_ret
  exact ⟨rfl, bthen HB6.out HB8.out⟩

set_option maxRecDepth 100000 in
set_option maxHeartbeats 8000000 in
theorem pev_no (w : World) (d0 d1 s t : ByteArray) (CT : (∀ W, Below w.heap.size w W → Calls Tryd.prog 13 #[.int .i64 task] W fun e w' => e = .returned (.string d0) ∧ Below W.heap.size W w')) (CN : (∀ W, Below w.heap.size w W → Calls Tryd.prog 13 #[.int .i64 nth] W fun e w' => e = .returned (.string d1) ∧ Below W.heap.size W w')) (h1 : k ≠ 1) (h2 : k ≠ 2) (h3 : k ≠ 3) (h4 : k ≠ 4) (h5 : k ≠ 5) (h6 : k ≠ 6) (h7 : k ≠ 7) (z0 : d0.size ≤ 1000) (z1 : d1.size ≤ 1000) (z2 : s.size ≤ 1000) (z3 : t.size ≤ 1000) :
    Calls Tryd.prog 6 #[.agg #[.int .i64 k, .int .i64 task, .int .i64 nth, .int .i64 ck, .string cid, .int .i64 ct, .int .i64 cv, .int .i64 ch, .int .i64 mn, .int .i64 mx, .int .i64 tg, .int .i64 tol, .int .i64 win, .int .i64 hold, .int .i64 err, .int .i64 epoch, .int .i64 handle, .int .i64 cnt, .int .i64 sum, .int .i64 least, .int .i64 most, .int .i64 mean, .int .i64 atick, .int .i64 aload, .int .i64 awant, .int .i64 arepl, .int .i64 awhy, .int .u64 (hi : Nat), .int .u64 (lo : Nat), .int .i64 ntick, .int .i64 nload, .int .i64 nwant, .int .i64 nrepl, .int .i64 nwhy]] w fun e w' => e = .returned (.string (joinS [d0, (⟨#[63]⟩ : ByteArray)])) ∧ Below w.heap.size w w' := by
  have HZ := Lib.hid (show ∀ x ∈ [d0, (⟨#[63]⟩ : ByteArray)], x.size ≤ 1000 from by
    intro x hx
    simp only [List.mem_cons, List.not_mem_nil, or_false] at hx
    rcases hx with rfl | rfl <;> first | assumption | decide)
  have C0 := Lib.hid CT
  have C1 := Lib.hid CN
  have q1 : (k == 1) = false := by simpa using h1
  have p1 : decide (k = 1) = false := by simpa using h1
  have q2 : (k == 2) = false := by simpa using h2
  have p2 : decide (k = 2) = false := by simpa using h2
  have q3 : (k == 3) = false := by simpa using h3
  have p3 : decide (k = 3) = false := by simpa using h3
  have q4 : (k == 4) = false := by simpa using h4
  have p4 : decide (k = 4) = false := by simpa using h4
  have q5 : (k == 5) = false := by simpa using h5
  have p5 : decide (k = 5) = false := by simpa using h5
  have q6 : (k == 6) = false := by simpa using h6
  have p6 : decide (k = 6) = false := by simpa using h6
  have q7 : (k == 7) = false := by simpa using h7
  have p7 : decide (k = 7) = false := by simpa using h7
  clear h1 h2 h3 h4 h5 h6 h7
  clear CT CN z0 z1 z2 z3
  go_enter Tryd.func6, Tryd.ntmps6
  go_wp2_with (first
    | (go_at_call 13
       have h9 := HB2.out
       refine calls_named ?_
       intro W3 hW3
       have hb3 : Below w2.heap.size w2 W3 := by rw [hW3]; exact balloc (Below.refl _ _) _
       have ho3 : OwnL strC 9 1 w.heap.size W3 (.slice (some ⟨w2.heap.size, 0, none⟩) 1 1) [d0] := by rw [hW3]; exact OwnL.lits (f := strC) (e := 9) (n := 1) w.heap.size w2 [d0] _ w2.heap.size 1 rfl HB2.out.size rfl (by decide) rfl rfl
       clear hW3
       with_reducible refine (C1.out _ (bthen HB2.out hb3)).mono ?_
       rintro e w4 ⟨rfl, hb4⟩
       obtain ⟨a4, a4f, a4l, a4h⟩ := box_at (bthen hb3 hb4) HX2.out
       have HX4 := Lib.hid a4h
       have HB4 := Lib.hid (bthen HB2.out (bthen hb3 hb4))
       have HO4 := Lib.hid (ho3.below hb4)
       clear h9 hb3 ho3 hb4 a4h a2 a2f a2l)
    | (go_at_call 13
       refine calls_named ?_
       intro W1 hW1
       have hb1 : Below w.heap.size w W1 := by rw [hW1]; exact balloc (Below.refl _ _) _
       have hx1 : W1.heap[w.heap.size]? = some (.cells #[.int .i64 k, .int .i64 task, .int .i64 nth, .int .i64 ck, .string cid, .int .i64 ct, .int .i64 cv, .int .i64 ch, .int .i64 mn, .int .i64 mx, .int .i64 tg, .int .i64 tol, .int .i64 win, .int .i64 hold, .int .i64 err, .int .i64 epoch, .int .i64 handle, .int .i64 cnt, .int .i64 sum, .int .i64 least, .int .i64 most, .int .i64 mean, .int .i64 atick, .int .i64 aload, .int .i64 awant, .int .i64 arepl, .int .i64 awhy, .int .u64 (hi : Nat), .int .u64 (lo : Nat), .int .i64 ntick, .int .i64 nload, .int .i64 nwant, .int .i64 nrepl, .int .i64 nwhy] 44 (0, 0)) := by rw [hW1]; exact heap_alloc_new _ _
       clear hW1
       with_reducible refine (C0.out _ hb1).mono ?_
       rintro e w2 ⟨rfl, hb2⟩
       obtain ⟨a2, a2f, a2l, a2h⟩ := box_at hb2 hx1
       have HX2 := Lib.hid a2h
       have HB2 := Lib.hid (bthen hb1 hb2)
       clear hb1 hx1 hb2 a2h)
    | (at_builtin
       refine wpList_appendL eStr (by rfl) (by rfl) w.heap.size [d0] [(⟨#[63]⟩ : ByteArray)] (.slice (some ⟨w2.heap.size, 0, none⟩) 1 1) _ (by rfl) (by rfl) (HO4.out.below (balloc (Below.refl _ _) _)) ((OwnL.lits (f := strC) (e := 9) (n := 1) w.heap.size w4 [(⟨#[63]⟩ : ByteArray)] _ w4.heap.size 1 rfl HB4.out.size rfl (by decide) rfl rfl).row eStr) (by simp) (by have := HB4.out.size; simp; omega) ?_
       intro out6 A6 c6 w6 hout6 hown6 hg6 _
       have hb6 : Below w.heap.size w w6 := (balloc HB4.out _).trans (grown_own hg6 HO4.out (by have := HB4.out.size; simp; omega))
       rw [show out6 = [d0, (⟨#[63]⟩ : ByteArray)] from hout6] at hown6 ⊢
       have HO6 := Lib.hid hown6
       have HB6 := Lib.hid hb6
       clear hout6 hown6 hg6 hb6)
    | (go_at_call 18
       refine (joinO_any w.heap.size _ _ _ _ HO6.out (by simp) HZ.out (by simp)).mono ?_
       rintro e w8 ⟨rfl, hb8⟩
       have HB8 := Lib.hid hb8
       clear hb8))
  go_ret
  exact ⟨rfl, bthen HB6.out HB8.out⟩

set_option maxRecDepth 100000 in
set_option maxHeartbeats 8000000 in
theorem pev_6 (w : World) (d0 d1 s t : ByteArray) (CT : (∀ W, Below w.heap.size w W → Calls Tryd.prog 13 #[.int .i64 task] W fun e w' => e = .returned (.string d0) ∧ Below W.heap.size W w')) (CN : (∀ W, Below w.heap.size w W → Calls Tryd.prog 13 #[.int .i64 nth] W fun e w' => e = .returned (.string d1) ∧ Below W.heap.size W w')) (CC : (∀ W, Below w.heap.size w W → Calls Tryd.prog 16 #[.agg #[.int .u64 (hi : Nat), .int .u64 (lo : Nat)]] W fun e w' => e = .returned (.string s) ∧ Below W.heap.size W w')) (CD : (∀ W, Below w.heap.size w W → Calls Tryd.prog 17 #[.agg #[.int .i64 ntick, .int .i64 nload, .int .i64 nwant, .int .i64 nrepl, .int .i64 nwhy]] W fun e w' => e = .returned (.string t) ∧ Below W.heap.size W w')) (z0 : d0.size ≤ 1000) (z1 : d1.size ≤ 1000) (z2 : s.size ≤ 1000) (z3 : t.size ≤ 1000) :
    Calls Tryd.prog 6 #[.agg #[.int .i64 6, .int .i64 task, .int .i64 nth, .int .i64 ck, .string cid, .int .i64 ct, .int .i64 cv, .int .i64 ch, .int .i64 mn, .int .i64 mx, .int .i64 tg, .int .i64 tol, .int .i64 win, .int .i64 hold, .int .i64 err, .int .i64 epoch, .int .i64 handle, .int .i64 cnt, .int .i64 sum, .int .i64 least, .int .i64 most, .int .i64 mean, .int .i64 atick, .int .i64 aload, .int .i64 awant, .int .i64 arepl, .int .i64 awhy, .int .u64 (hi : Nat), .int .u64 (lo : Nat), .int .i64 ntick, .int .i64 nload, .int .i64 nwant, .int .i64 nrepl, .int .i64 nwhy]] w fun e w' => e = .returned (.string (joinS [d0, (⟨#[110, 111, 116, 101, 100]⟩ : ByteArray), s, t])) ∧ Below w.heap.size w w' := by
  have HZ := Lib.hid (show ∀ x ∈ [d0, (⟨#[110, 111, 116, 101, 100]⟩ : ByteArray), s, t], x.size ≤ 1000 from by
    intro x hx
    simp only [List.mem_cons, List.not_mem_nil, or_false] at hx
    rcases hx with rfl | rfl | rfl | rfl <;> first | assumption | decide)
  have C0 := Lib.hid CT
  have C1 := Lib.hid CN
  have C2 := Lib.hid CC
  have C3 := Lib.hid CD
  clear CC CD
  clear CT CN z0 z1 z2 z3
  go_enter Tryd.func6, Tryd.ntmps6
  go_wp2_with (first
    | (go_at_call 13
       have h9 := HB2.out
       refine calls_named ?_
       intro W3 hW3
       have hb3 : Below w2.heap.size w2 W3 := by rw [hW3]; exact balloc (Below.refl _ _) _
       have ho3 : OwnL strC 9 1 w.heap.size W3 (.slice (some ⟨w2.heap.size, 0, none⟩) 1 1) [d0] := by rw [hW3]; exact OwnL.lits (f := strC) (e := 9) (n := 1) w.heap.size w2 [d0] _ w2.heap.size 1 rfl HB2.out.size rfl (by decide) rfl rfl
       clear hW3
       with_reducible refine (C1.out _ (bthen HB2.out hb3)).mono ?_
       rintro e w4 ⟨rfl, hb4⟩
       obtain ⟨a4, a4f, a4l, a4h⟩ := box_at (bthen hb3 hb4) HX2.out
       have HX4 := Lib.hid a4h
       have HB4 := Lib.hid (bthen HB2.out (bthen hb3 hb4))
       have HO4 := Lib.hid (ho3.below hb4)
       clear h9 hb3 ho3 hb4 a4h a2 a2f a2l)
    | (go_at_call 13
       refine calls_named ?_
       intro W1 hW1
       have hb1 : Below w.heap.size w W1 := by rw [hW1]; exact balloc (Below.refl _ _) _
       have hx1 : W1.heap[w.heap.size]? = some (.cells #[.int .i64 6, .int .i64 task, .int .i64 nth, .int .i64 ck, .string cid, .int .i64 ct, .int .i64 cv, .int .i64 ch, .int .i64 mn, .int .i64 mx, .int .i64 tg, .int .i64 tol, .int .i64 win, .int .i64 hold, .int .i64 err, .int .i64 epoch, .int .i64 handle, .int .i64 cnt, .int .i64 sum, .int .i64 least, .int .i64 most, .int .i64 mean, .int .i64 atick, .int .i64 aload, .int .i64 awant, .int .i64 arepl, .int .i64 awhy, .int .u64 (hi : Nat), .int .u64 (lo : Nat), .int .i64 ntick, .int .i64 nload, .int .i64 nwant, .int .i64 nrepl, .int .i64 nwhy] 44 (0, 0)) := by rw [hW1]; exact heap_alloc_new _ _
       clear hW1
       with_reducible refine (C0.out _ hb1).mono ?_
       rintro e w2 ⟨rfl, hb2⟩
       obtain ⟨a2, a2f, a2l, a2h⟩ := box_at hb2 hx1
       have HX2 := Lib.hid a2h
       have HB2 := Lib.hid (bthen hb1 hb2)
       clear hb1 hx1 hb2 a2h))
  refine wp_region_held_drew (S := (fun U : World => U.heap[w.heap.size]? = some (.cells #[.int .i64 6, .int .i64 task, .int .i64 nth, .int .i64 ck, .string cid, .int .i64 ct, .int .i64 cv, .int .i64 ch, .int .i64 mn, .int .i64 mx, .int .i64 tg, .int .i64 tol, .int .i64 win, .int .i64 hold, .int .i64 err, .int .i64 epoch, .int .i64 handle, .int .i64 cnt, .int .i64 sum, .int .i64 least, .int .i64 most, .int .i64 mean, .int .i64 atick, .int .i64 aload, .int .i64 awant, .int .i64 arepl, .int .i64 awhy, .int .u64 (hi : Nat), .int .u64 (lo : Nat), .int .i64 ntick, .int .i64 nload, .int .i64 nwant, .int .i64 nrepl, .int .i64 nwhy] 44 (0, 0)))) (by kernel_rfl) ?hS1 (fun hHeld => ?_)
  case hS1 => first | with_reducible exact HX4.out | with_reducible exact HX4.out.drew | exact HX4.out | with_reducible exact HX5.out | with_reducible exact HX6.out | exact (Below.heap_alloc _ _ _ (Array.getElem?_eq_some_iff.1 HX6.out).1).trans HX6.out | with_reducible exact HX7.out
  refine wpAnyH_take (i := 0) (v := ?v2) rfl (by kernel_rfl) (by kernel_rfl) (by kernel_rfl) (fun _ _ _ h => h) (Or.inl ⟨by rfl, ?hy2⟩) (by assumption) ?_
  case hy2 =>
    intro w' hSw
    (try dsimp only at hSw)
    go_simp
    try (with_reducible rfl)
  try simp only [Act.put, List.getElem_toArray, List.getElem_cons_succ, List.getElem_cons_zero, List.setIfInBounds_toArray, List.set_cons_zero, List.set_cons_succ]
  refine wpAnyH_take (i := 1) (v := ?v3) rfl (by kernel_rfl) (by kernel_rfl) (by kernel_rfl) (fun _ _ _ h => h) (Or.inl ⟨by rfl, ?hy3⟩) (by assumption) ?_
  case hy3 =>
    intro w' hSw
    (try dsimp only at hSw)
    go_simp
    try (with_reducible rfl)
  try simp only [Act.put, List.getElem_toArray, List.getElem_cons_succ, List.getElem_cons_zero, List.setIfInBounds_toArray, List.set_cons_zero, List.set_cons_succ]
  refine wpAnyH_take (i := 2) (v := ?v4) rfl (by kernel_rfl) (by kernel_rfl) (by kernel_rfl) (fun _ _ _ h => h) (Or.inl ⟨by rfl, ?hy4⟩) (by assumption) ?_
  case hy4 =>
    intro w' hSw
    (try dsimp only at hSw)
    have q0 := (box_cells (Below.refl _ _) hSw).1
    go_simp
    try (with_reducible rfl)
  try simp only [Act.put, List.getElem_toArray, List.getElem_cons_succ, List.getElem_cons_zero, List.setIfInBounds_toArray, List.set_cons_zero, List.set_cons_succ]
  refine wpAnyH_take (i := 4) (v := ?v5) rfl (by kernel_rfl) (by kernel_rfl) (by kernel_rfl) (fun _ _ _ h => h) (Or.inl ⟨by rfl, ?hy5⟩) (by assumption) ?_
  case hy5 =>
    intro w' hSw
    (try dsimp only at hSw)
    go_simp
    try (with_reducible rfl)
  try simp only [Act.put, List.getElem_toArray, List.getElem_cons_succ, List.getElem_cons_zero, List.setIfInBounds_toArray, List.set_cons_zero, List.set_cons_succ]
  refine wpAnyH_take (i := 5) (v := ?v6) rfl (by kernel_rfl) (by kernel_rfl) (by kernel_rfl) (fun _ _ _ h => h) (Or.inl ⟨by rfl, ?hy6⟩) (by assumption) ?_
  case hy6 =>
    intro w' hSw
    (try dsimp only at hSw)
    have q0 := (box_cells (Below.refl _ _) hSw).1
    go_simp
    try (with_reducible rfl)
  try simp only [Act.put, List.getElem_toArray, List.getElem_cons_succ, List.getElem_cons_zero, List.setIfInBounds_toArray, List.set_cons_zero, List.set_cons_succ]
  refine wpAnyH_ready (rs := [3]) (by kernel_rfl) (by simp) ?_
  refine AllReadyH.cons rfl (fun K hK => ?_) AllReadyH.nil
  go_simp
  go_at_call 16
  refine calls_named ?_
  intro W5 hW5
  have hb5 : Below w4.heap.size w4 W5 := by rw [hW5]; first | exact Below.refl _ _ | exact (Below.refl _ _).drew
  clear hW5
  with_reducible refine (C2.out _ (bthen HB4.out hb5)).mono ?_
  rintro e w5 ⟨rfl, hb6⟩
  have hb7 := bthen hb5 hb6
  have HX5 := Lib.hid ((hb7.block _ (Array.getElem?_eq_some_iff.1 HX4.out).1).trans HX4.out)
  have HB5 := Lib.hid (bthen HB4.out hb7)
  have HO5 := Lib.hid (HO4.out.below hb7)
  clear hb5 hb6 hb7
  try go_simp
  refine hK.out _ _ ?hS7 (fun hHeld2 => ?_)
  case hS7 => first | with_reducible exact HX4.out | with_reducible exact HX4.out.drew | exact HX4.out | with_reducible exact HX5.out | with_reducible exact HX6.out | exact (Below.heap_alloc _ _ _ (Array.getElem?_eq_some_iff.1 HX6.out).1).trans HX6.out | with_reducible exact HX7.out
  clear hK K hHeld
  have hHeld := hHeld2
  clear hHeld2
  try simp only [Act.put, List.getElem_toArray, List.getElem_cons_succ, List.getElem_cons_zero, List.setIfInBounds_toArray, List.set_cons_zero, List.set_cons_succ]
  refine wpAnyH_ready (rs := [6]) (by kernel_rfl) (by simp) ?_
  refine AllReadyH.cons rfl (fun K hK => ?_) AllReadyH.nil
  go_simp
  go_at_call 17
  with_reducible refine (C3.out _ HB5.out).mono ?_
  rintro e w6 ⟨rfl, hb6⟩
  have HX6 := Lib.hid ((hb6.block _ (Array.getElem?_eq_some_iff.1 HX5.out).1).trans HX5.out)
  have HB6 := Lib.hid (bthen HB5.out hb6)
  have HO6 := Lib.hid (HO5.out.below hb6)
  clear hb6
  try go_simp
  refine hK.out _ _ ?hS8 (fun hHeld2 => ?_)
  case hS8 => first | with_reducible exact HX4.out | with_reducible exact HX4.out.drew | exact HX4.out | with_reducible exact HX5.out | with_reducible exact HX6.out | exact (Below.heap_alloc _ _ _ (Array.getElem?_eq_some_iff.1 HX6.out).1).trans HX6.out | with_reducible exact HX7.out
  clear hK K hHeld
  have hHeld := hHeld2
  clear hHeld2
  try simp only [Act.put, List.getElem_toArray, List.getElem_cons_succ, List.getElem_cons_zero, List.setIfInBounds_toArray, List.set_cons_zero, List.set_cons_succ]
  refine wpAnyH_ready (rs := [7]) (by kernel_rfl) (by simp) ?_
  refine AllReadyH.cons rfl (fun K hK => ?_) AllReadyH.nil
  go_simp
  skip
  try go_simp
  refine hK.out _ _ ?hS9 (fun hHeld2 => ?_)
  case hS9 => first | with_reducible exact HX4.out | with_reducible exact HX4.out.drew | exact HX4.out | with_reducible exact HX5.out | with_reducible exact HX6.out | exact (Below.heap_alloc _ _ _ (Array.getElem?_eq_some_iff.1 HX6.out).1).trans HX6.out | with_reducible exact HX7.out
  clear hK K hHeld
  have hHeld := hHeld2
  clear hHeld2
  try simp only [Act.put, List.getElem_toArray, List.getElem_cons_succ, List.getElem_cons_zero, List.setIfInBounds_toArray, List.set_cons_zero, List.set_cons_succ]
  refine wpAnyH_ready (rs := [8]) (by kernel_rfl) (by simp) ?_
  refine AllReadyH.cons rfl (fun K hK => ?_) AllReadyH.nil
  refine step_appendL eStr (by rfl) (.tmp 62) (.tmp 69) (by rfl) w.heap.size [d0] [(⟨#[110, 111, 116, 101, 100]⟩ : ByteArray), s, t] (.slice (some ⟨w2.heap.size, 0, none⟩) 1 1) _ (by rfl) (by rfl) (HO6.out.below (balloc (Below.refl _ _) _)) ((OwnL.lits (f := strC) (e := 9) (n := 1) w.heap.size w6 [(⟨#[110, 111, 116, 101, 100]⟩ : ByteArray), s, t] _ w6.heap.size 3 rfl HB6.out.size rfl (by decide) rfl rfl).row eStr) (by simp) (by have := HB6.out.size; simp; omega) ?_
  intro out7 A7 c7 w7 hout7 hown7 hg7 hblk7
  have hb7 : Below w.heap.size w w7 := (balloc HB6.out _).trans (grown_own hg7 HO6.out (by have := HB6.out.size; simp; omega))
  have hx7 := (hg7.block w.heap.size (by have := (Array.getElem?_eq_some_iff.1 HX6.out).1; simp; omega) (fun e => by have := HB2.out.size; have := (Array.getElem?_eq_some_iff.1 HX2.out).1; simp [Value.ownBlock] at e; omega)).trans ((Below.heap_alloc _ _ _ (Array.getElem?_eq_some_iff.1 HX6.out).1).trans HX6.out)
  rw [show out7 = [d0, (⟨#[110, 111, 116, 101, 100]⟩ : ByteArray), s, t] from hout7] at hown7 ⊢
  have HO7 := Lib.hid hown7
  have HB7 := Lib.hid hb7
  have HX7 := Lib.hid hx7
  clear hown7 hout7 hg7 hblk7 hb7 hx7
  refine hK.out _ _ ?hS10 (fun hHeld2 => ?_)
  case hS10 => first | with_reducible exact HX4.out | with_reducible exact HX4.out.drew | exact HX4.out | with_reducible exact HX5.out | with_reducible exact HX6.out | exact (Below.heap_alloc _ _ _ (Array.getElem?_eq_some_iff.1 HX6.out).1).trans HX6.out | with_reducible exact HX7.out
  clear hK K hHeld
  have hHeld := hHeld2
  clear hHeld2
  try simp only [Act.put, List.getElem_toArray, List.getElem_cons_succ, List.getElem_cons_zero, List.setIfInBounds_toArray, List.set_cons_zero, List.set_cons_succ]
  refine wpAnyH_take (i := 9) (v := ?v11) rfl (by kernel_rfl) (by kernel_rfl) (by kernel_rfl) (fun _ _ _ h => h) (Or.inl ⟨by rfl, ?hy11⟩) (by assumption) ?_
  case hy11 =>
    intro w' hSw
    (try dsimp only at hSw)
    go_simp
    try (with_reducible rfl)
  try simp only [Act.put, List.getElem_toArray, List.getElem_cons_succ, List.getElem_cons_zero, List.setIfInBounds_toArray, List.set_cons_zero, List.set_cons_succ]
  refine wpAnyH_done (by kernel_rfl) ?_ _
  go_wp2_with (go_at_call 18
               refine (joinO_any w.heap.size _ _ _ _ HO7.out (by simp) HZ.out (by simp)).mono ?_
               rintro e w8 ⟨rfl, hb8⟩
               have HB8 := Lib.hid hb8
               clear hb8)
  go_ret
  exact ⟨rfl, bthen HB7.out HB8.out⟩

end
end

end Go.Proofs.YtmndhffimlkjgaaDoor
