/- flywheelref43.Event: an event's line. -/
import Derived.Test.YtmndhffimlkjgaaDoorJ16
import Derived.Test.YtmndhffimlkjgaaDoorJ20
namespace Go.Proofs.YtmndhffimlkjgaaDoor

section
set_option linter.unusedSimpArgs false
set_option linter.unusedVariables false
open Go.RowKit Go.Lib

section
variable (k task nth ck : Int) (cid : ByteArray) (ct cv ch mn mx tg tol win hold err epoch handle cnt sum least most mean atick aload awant arepl awhy : Int) (hi lo : Nat) (ntick nload nwant nrepl nwhy : Int)
set_option maxRecDepth 100000 in
set_option maxHeartbeats 8000000 in
theorem rev_2 (w : World) (d0 d1 s t : ByteArray) (CT : (∀ W, Calls Tryd.prog 19 #[.int .i64 task] W fun e w' => e = .returned (.string d0) ∧ w' = W)) (CN : (∀ W, Calls Tryd.prog 19 #[.int .i64 nth] W fun e w' => e = .returned (.string d1) ∧ w' = W)) (CC : (∀ W, Below w.heap.size w W → Calls Tryd.prog 21 #[.agg #[.int .i64 err, .int .i64 epoch, .int .i64 handle, .int .i64 cnt, .int .i64 sum, .int .i64 least, .int .i64 most, .int .i64 mean, .int .i64 atick, .int .i64 aload, .int .i64 awant, .int .i64 arepl, .int .i64 awhy]] W fun e w' => e = .returned (.string s) ∧ Below W.heap.size W w')) (z0 : d0.size ≤ 1000) (z1 : d1.size ≤ 1000) (z2 : s.size ≤ 1000) (z3 : t.size ≤ 1000) :
    Calls Tryd.prog 7 #[.agg #[.int .i64 2, .int .i64 task, .int .i64 nth, .int .i64 ck, .string cid, .int .i64 ct, .int .i64 cv, .int .i64 ch, .int .i64 mn, .int .i64 mx, .int .i64 tg, .int .i64 tol, .int .i64 win, .int .i64 hold, .int .i64 err, .int .i64 epoch, .int .i64 handle, .int .i64 cnt, .int .i64 sum, .int .i64 least, .int .i64 most, .int .i64 mean, .int .i64 atick, .int .i64 aload, .int .i64 awant, .int .i64 arepl, .int .i64 awhy, .int .u64 (hi : Nat), .int .u64 (lo : Nat), .int .i64 ntick, .int .i64 nload, .int .i64 nwant, .int .i64 nrepl, .int .i64 nwhy]] w fun e w' => e = .returned (.string (d0 ++ ⟨#[32]⟩ ++ (d1 ++ ⟨#[32]⟩) ++ ⟨#[112, 111, 105, 110, 116, 32]⟩ ++ s)) ∧ Below w.heap.size w w' := by
  have C0 := Lib.hid CT
  have C1 := Lib.hid CN
  have C2 := Lib.hid CC
  clear CC
  clear CT CN
  go_enter Tryd.func7, Tryd.ntmps7
  go_wp2_with (first
    | (go_at_call 19; with_reducible refine (C0.out _).mono ?_; rintro e w' ⟨rfl, rfl⟩)
    | (go_at_call 19; with_reducible refine (C1.out _).mono ?_; rintro e w' ⟨rfl, rfl⟩)
    | (go_at_call 21; refine calls_named ?_; intro W1 hW1; have hb1 : Below w.heap.size w W1 := (by rw [hW1]; exact balloc (Below.refl _ _) _); clear hW1; with_reducible refine (C2.out _ hb1).mono ?_; rintro e w5 ⟨rfl, hb5⟩; have HB5 := Lib.hid (bthen hb1 hb5); clear hb5 hb1))
  go_ret
  exact ⟨rfl, HB5.out⟩

set_option maxRecDepth 100000 in
set_option maxHeartbeats 8000000 in
theorem rev_3 (w : World) (d0 d1 s t : ByteArray) (CT : (∀ W, Calls Tryd.prog 19 #[.int .i64 task] W fun e w' => e = .returned (.string d0) ∧ w' = W)) (CN : (∀ W, Calls Tryd.prog 19 #[.int .i64 nth] W fun e w' => e = .returned (.string d1) ∧ w' = W)) (CC : (∀ W, Below w.heap.size w W → Calls Tryd.prog 21 #[.agg #[.int .i64 err, .int .i64 epoch, .int .i64 handle, .int .i64 cnt, .int .i64 sum, .int .i64 least, .int .i64 most, .int .i64 mean, .int .i64 atick, .int .i64 aload, .int .i64 awant, .int .i64 arepl, .int .i64 awhy]] W fun e w' => e = .returned (.string s) ∧ Below W.heap.size W w')) (z0 : d0.size ≤ 1000) (z1 : d1.size ≤ 1000) (z2 : s.size ≤ 1000) (z3 : t.size ≤ 1000) :
    Calls Tryd.prog 7 #[.agg #[.int .i64 3, .int .i64 task, .int .i64 nth, .int .i64 ck, .string cid, .int .i64 ct, .int .i64 cv, .int .i64 ch, .int .i64 mn, .int .i64 mx, .int .i64 tg, .int .i64 tol, .int .i64 win, .int .i64 hold, .int .i64 err, .int .i64 epoch, .int .i64 handle, .int .i64 cnt, .int .i64 sum, .int .i64 least, .int .i64 most, .int .i64 mean, .int .i64 atick, .int .i64 aload, .int .i64 awant, .int .i64 arepl, .int .i64 awhy, .int .u64 (hi : Nat), .int .u64 (lo : Nat), .int .i64 ntick, .int .i64 nload, .int .i64 nwant, .int .i64 nrepl, .int .i64 nwhy]] w fun e w' => e = .returned (.string (d0 ++ ⟨#[32]⟩ ++ (d1 ++ ⟨#[32]⟩) ++ ⟨#[114, 101, 116, 117, 114, 110, 32]⟩ ++ s)) ∧ Below w.heap.size w w' := by
  have C0 := Lib.hid CT
  have C1 := Lib.hid CN
  have C2 := Lib.hid CC
  clear CC
  clear CT CN
  go_enter Tryd.func7, Tryd.ntmps7
  go_wp2_with (first
    | (go_at_call 19; with_reducible refine (C0.out _).mono ?_; rintro e w' ⟨rfl, rfl⟩)
    | (go_at_call 19; with_reducible refine (C1.out _).mono ?_; rintro e w' ⟨rfl, rfl⟩)
    | (go_at_call 21; refine calls_named ?_; intro W1 hW1; have hb1 : Below w.heap.size w W1 := (by rw [hW1]; exact balloc (Below.refl _ _) _); clear hW1; with_reducible refine (C2.out _ hb1).mono ?_; rintro e w5 ⟨rfl, hb5⟩; have HB5 := Lib.hid (bthen hb1 hb5); clear hb5 hb1))
  go_ret
  exact ⟨rfl, HB5.out⟩

set_option maxRecDepth 100000 in
set_option maxHeartbeats 8000000 in
theorem rev_4 (w : World) (d0 d1 s t : ByteArray) (CT : (∀ W, Calls Tryd.prog 19 #[.int .i64 task] W fun e w' => e = .returned (.string d0) ∧ w' = W)) (CN : (∀ W, Calls Tryd.prog 19 #[.int .i64 nth] W fun e w' => e = .returned (.string d1) ∧ w' = W)) (CC : (∀ W, Below w.heap.size w W → Calls Tryd.prog 22 #[.agg #[.int .u64 (hi : Nat), .int .u64 (lo : Nat)]] W fun e w' => e = .returned (.string s) ∧ Below W.heap.size W w')) (z0 : d0.size ≤ 1000) (z1 : d1.size ≤ 1000) (z2 : s.size ≤ 1000) (z3 : t.size ≤ 1000) :
    Calls Tryd.prog 7 #[.agg #[.int .i64 4, .int .i64 task, .int .i64 nth, .int .i64 ck, .string cid, .int .i64 ct, .int .i64 cv, .int .i64 ch, .int .i64 mn, .int .i64 mx, .int .i64 tg, .int .i64 tol, .int .i64 win, .int .i64 hold, .int .i64 err, .int .i64 epoch, .int .i64 handle, .int .i64 cnt, .int .i64 sum, .int .i64 least, .int .i64 most, .int .i64 mean, .int .i64 atick, .int .i64 aload, .int .i64 awant, .int .i64 arepl, .int .i64 awhy, .int .u64 (hi : Nat), .int .u64 (lo : Nat), .int .i64 ntick, .int .i64 nload, .int .i64 nwant, .int .i64 nrepl, .int .i64 nwhy]] w fun e w' => e = .returned (.string (d0 ++ ⟨#[32]⟩ ++ ⟨#[116, 111, 111, 107, 32]⟩ ++ s)) ∧ Below w.heap.size w w' := by
  have C0 := Lib.hid CT
  have C1 := Lib.hid CN
  have C2 := Lib.hid CC
  clear CC
  clear CT CN
  go_enter Tryd.func7, Tryd.ntmps7
  go_wp2_with (first
    | (go_at_call 19; with_reducible refine (C0.out _).mono ?_; rintro e w' ⟨rfl, rfl⟩)
    | (go_at_call 19; with_reducible refine (C1.out _).mono ?_; rintro e w' ⟨rfl, rfl⟩)
    | (go_at_call 22; refine calls_named ?_; intro W1 hW1; have hb1 : Below w.heap.size w W1 := (by rw [hW1]; exact balloc (Below.refl _ _) _); clear hW1; with_reducible refine (C2.out _ hb1).mono ?_; rintro e w5 ⟨rfl, hb5⟩; have HB5 := Lib.hid (bthen hb1 hb5); clear hb5 hb1))
  go_ret
  exact ⟨rfl, HB5.out⟩

set_option maxRecDepth 100000 in
set_option maxHeartbeats 8000000 in
theorem rev_5 (w : World) (d0 d1 s t : ByteArray) (CT : (∀ W, Calls Tryd.prog 19 #[.int .i64 task] W fun e w' => e = .returned (.string d0) ∧ w' = W)) (CN : (∀ W, Calls Tryd.prog 19 #[.int .i64 nth] W fun e w' => e = .returned (.string d1) ∧ w' = W)) (CC : (∀ W, Below w.heap.size w W → Calls Tryd.prog 22 #[.agg #[.int .u64 (hi : Nat), .int .u64 (lo : Nat)]] W fun e w' => e = .returned (.string s) ∧ Below W.heap.size W w')) (z0 : d0.size ≤ 1000) (z1 : d1.size ≤ 1000) (z2 : s.size ≤ 1000) (z3 : t.size ≤ 1000) :
    Calls Tryd.prog 7 #[.agg #[.int .i64 5, .int .i64 task, .int .i64 nth, .int .i64 ck, .string cid, .int .i64 ct, .int .i64 cv, .int .i64 ch, .int .i64 mn, .int .i64 mx, .int .i64 tg, .int .i64 tol, .int .i64 win, .int .i64 hold, .int .i64 err, .int .i64 epoch, .int .i64 handle, .int .i64 cnt, .int .i64 sum, .int .i64 least, .int .i64 most, .int .i64 mean, .int .i64 atick, .int .i64 aload, .int .i64 awant, .int .i64 arepl, .int .i64 awhy, .int .u64 (hi : Nat), .int .u64 (lo : Nat), .int .i64 ntick, .int .i64 nload, .int .i64 nwant, .int .i64 nrepl, .int .i64 nwhy]] w fun e w' => e = .returned (.string (d0 ++ ⟨#[32]⟩ ++ ⟨#[115, 97, 119, 32]⟩ ++ s)) ∧ Below w.heap.size w w' := by
  have C0 := Lib.hid CT
  have C1 := Lib.hid CN
  have C2 := Lib.hid CC
  clear CC
  clear CT CN
  go_enter Tryd.func7, Tryd.ntmps7
  go_wp2_with (first
    | (go_at_call 19; with_reducible refine (C0.out _).mono ?_; rintro e w' ⟨rfl, rfl⟩)
    | (go_at_call 19; with_reducible refine (C1.out _).mono ?_; rintro e w' ⟨rfl, rfl⟩)
    | (go_at_call 22; refine calls_named ?_; intro W1 hW1; have hb1 : Below w.heap.size w W1 := (by rw [hW1]; exact balloc (Below.refl _ _) _); clear hW1; with_reducible refine (C2.out _ hb1).mono ?_; rintro e w5 ⟨rfl, hb5⟩; have HB5 := Lib.hid (bthen hb1 hb5); clear hb5 hb1))
  go_ret
  exact ⟨rfl, HB5.out⟩

set_option maxRecDepth 100000 in
set_option maxHeartbeats 8000000 in
theorem rev_7 (w : World) (d0 d1 s t : ByteArray) (CT : (∀ W, Calls Tryd.prog 19 #[.int .i64 task] W fun e w' => e = .returned (.string d0) ∧ w' = W)) (CN : (∀ W, Calls Tryd.prog 19 #[.int .i64 nth] W fun e w' => e = .returned (.string d1) ∧ w' = W)) (CC : (∀ W, Below w.heap.size w W → Calls Tryd.prog 22 #[.agg #[.int .u64 (hi : Nat), .int .u64 (lo : Nat)]] W fun e w' => e = .returned (.string s) ∧ Below W.heap.size W w')) (z0 : d0.size ≤ 1000) (z1 : d1.size ≤ 1000) (z2 : s.size ≤ 1000) (z3 : t.size ≤ 1000) :
    Calls Tryd.prog 7 #[.agg #[.int .i64 7, .int .i64 task, .int .i64 nth, .int .i64 ck, .string cid, .int .i64 ct, .int .i64 cv, .int .i64 ch, .int .i64 mn, .int .i64 mx, .int .i64 tg, .int .i64 tol, .int .i64 win, .int .i64 hold, .int .i64 err, .int .i64 epoch, .int .i64 handle, .int .i64 cnt, .int .i64 sum, .int .i64 least, .int .i64 most, .int .i64 mean, .int .i64 atick, .int .i64 aload, .int .i64 awant, .int .i64 arepl, .int .i64 awhy, .int .u64 (hi : Nat), .int .u64 (lo : Nat), .int .i64 ntick, .int .i64 nload, .int .i64 nwant, .int .i64 nrepl, .int .i64 nwhy]] w fun e w' => e = .returned (.string (d0 ++ ⟨#[32]⟩ ++ ⟨#[103, 97, 118, 101, 32]⟩ ++ s)) ∧ Below w.heap.size w w' := by
  have C0 := Lib.hid CT
  have C1 := Lib.hid CN
  have C2 := Lib.hid CC
  clear CC
  clear CT CN
  go_enter Tryd.func7, Tryd.ntmps7
  go_wp2_with (first
    | (go_at_call 19; with_reducible refine (C0.out _).mono ?_; rintro e w' ⟨rfl, rfl⟩)
    | (go_at_call 19; with_reducible refine (C1.out _).mono ?_; rintro e w' ⟨rfl, rfl⟩)
    | (go_at_call 22; refine calls_named ?_; intro W1 hW1; have hb1 : Below w.heap.size w W1 := (by rw [hW1]; exact balloc (Below.refl _ _) _); clear hW1; with_reducible refine (C2.out _ hb1).mono ?_; rintro e w5 ⟨rfl, hb5⟩; have HB5 := Lib.hid (bthen hb1 hb5); clear hb5 hb1))
  go_ret
  exact ⟨rfl, HB5.out⟩

set_option maxRecDepth 100000 in
set_option maxHeartbeats 8000000 in
theorem rev_1 (w : World) (d0 d1 s t : ByteArray) (CT : (∀ W, Calls Tryd.prog 19 #[.int .i64 task] W fun e w' => e = .returned (.string d0) ∧ w' = W)) (CN : (∀ W, Calls Tryd.prog 19 #[.int .i64 nth] W fun e w' => e = .returned (.string d1) ∧ w' = W)) (x : Int) (hx : x = 0) (CC : (∀ W, Below w.heap.size w W → Calls Tryd.prog 20 #[.agg #[.int .i64 ck, .string cid, .int .i64 ct, .int .i64 cv, .int .i64 ch, .int .i64 mn, .int .i64 mx, .int .i64 tg, .int .i64 tol, .int .i64 win, .int .i64 hold]] W fun e w' => e = .returned (.tuple #[.string s, .int .i64 x]) ∧ Below W.heap.size W w')) (z0 : d0.size ≤ 1000) (z1 : d1.size ≤ 1000) (z2 : s.size ≤ 1000) (z3 : t.size ≤ 1000) :
    Calls Tryd.prog 7 #[.agg #[.int .i64 1, .int .i64 task, .int .i64 nth, .int .i64 ck, .string cid, .int .i64 ct, .int .i64 cv, .int .i64 ch, .int .i64 mn, .int .i64 mx, .int .i64 tg, .int .i64 tol, .int .i64 win, .int .i64 hold, .int .i64 err, .int .i64 epoch, .int .i64 handle, .int .i64 cnt, .int .i64 sum, .int .i64 least, .int .i64 most, .int .i64 mean, .int .i64 atick, .int .i64 aload, .int .i64 awant, .int .i64 arepl, .int .i64 awhy, .int .u64 (hi : Nat), .int .u64 (lo : Nat), .int .i64 ntick, .int .i64 nload, .int .i64 nwant, .int .i64 nrepl, .int .i64 nwhy]] w fun e w' => e = .returned (.string (d0 ++ ⟨#[32]⟩ ++ (d1 ++ ⟨#[32]⟩) ++ ⟨#[99, 97, 108, 108, 32]⟩ ++ s)) ∧ Below w.heap.size w w' := by
  have C0 := Lib.hid CT
  have C1 := Lib.hid CN
  subst hx
  have C2 := Lib.hid CC
  clear CC
  clear CT CN
  go_enter Tryd.func7, Tryd.ntmps7
  go_wp2_with (first
    | (go_at_call 19; with_reducible refine (C0.out _).mono ?_; rintro e w' ⟨rfl, rfl⟩)
    | (go_at_call 19; with_reducible refine (C1.out _).mono ?_; rintro e w' ⟨rfl, rfl⟩)
    | (go_at_call 20; refine calls_named ?_; intro W1 hW1; have hb1 : Below w.heap.size w W1 := (by rw [hW1]; exact balloc (Below.refl _ _) _); clear hW1; with_reducible refine (C2.out _ hb1).mono ?_; rintro e w5 ⟨rfl, hb5⟩; have HB5 := Lib.hid (bthen hb1 hb5); clear hb5 hb1))
  go_ret
  exact ⟨rfl, HB5.out⟩

set_option maxRecDepth 100000 in
set_option maxHeartbeats 8000000 in
theorem rev_1b (w : World) (d0 d1 s t : ByteArray) (CT : (∀ W, Calls Tryd.prog 19 #[.int .i64 task] W fun e w' => e = .returned (.string d0) ∧ w' = W)) (CN : (∀ W, Calls Tryd.prog 19 #[.int .i64 nth] W fun e w' => e = .returned (.string d1) ∧ w' = W)) (x : Int) (hx : x ≠ 0) (CC : (∀ W, Below w.heap.size w W → Calls Tryd.prog 20 #[.agg #[.int .i64 ck, .string cid, .int .i64 ct, .int .i64 cv, .int .i64 ch, .int .i64 mn, .int .i64 mx, .int .i64 tg, .int .i64 tol, .int .i64 win, .int .i64 hold]] W fun e w' => e = .returned (.tuple #[.string s, .int .i64 x]) ∧ Below W.heap.size W w')) (z0 : d0.size ≤ 1000) (z1 : d1.size ≤ 1000) (z2 : s.size ≤ 1000) (z3 : t.size ≤ 1000) :
    Calls Tryd.prog 7 #[.agg #[.int .i64 1, .int .i64 task, .int .i64 nth, .int .i64 ck, .string cid, .int .i64 ct, .int .i64 cv, .int .i64 ch, .int .i64 mn, .int .i64 mx, .int .i64 tg, .int .i64 tol, .int .i64 win, .int .i64 hold, .int .i64 err, .int .i64 epoch, .int .i64 handle, .int .i64 cnt, .int .i64 sum, .int .i64 least, .int .i64 most, .int .i64 mean, .int .i64 atick, .int .i64 aload, .int .i64 awant, .int .i64 arepl, .int .i64 awhy, .int .u64 (hi : Nat), .int .u64 (lo : Nat), .int .i64 ntick, .int .i64 nload, .int .i64 nwant, .int .i64 nrepl, .int .i64 nwhy]] w fun e w' => e = .returned (.string (d0 ++ ⟨#[32]⟩ ++ (d1 ++ ⟨#[32]⟩) ++ ⟨#[99, 97, 108, 108, 32]⟩ ++ ⟨#[63]⟩)) ∧ Below w.heap.size w w' := by
  have C0 := Lib.hid CT
  have C1 := Lib.hid CN
  have q1 : (x == 0) = false := by simpa using hx
  have q2 : (x != 0) = true := by simpa using hx
  have C2 := Lib.hid CC
  clear CC
  clear CT CN
  go_enter Tryd.func7, Tryd.ntmps7
  go_wp2_with (first
    | (go_at_call 19; with_reducible refine (C0.out _).mono ?_; rintro e w' ⟨rfl, rfl⟩)
    | (go_at_call 19; with_reducible refine (C1.out _).mono ?_; rintro e w' ⟨rfl, rfl⟩)
    | (go_at_call 20; refine calls_named ?_; intro W1 hW1; have hb1 : Below w.heap.size w W1 := (by rw [hW1]; exact balloc (Below.refl _ _) _); clear hW1; with_reducible refine (C2.out _ hb1).mono ?_; rintro e w5 ⟨rfl, hb5⟩; have HB5 := Lib.hid (bthen hb1 hb5); clear hb5 hb1))
  go_ret
  exact ⟨rfl, HB5.out⟩

set_option maxRecDepth 100000 in
set_option maxHeartbeats 8000000 in
theorem rev_no (w : World) (d0 d1 s t : ByteArray) (CT : (∀ W, Calls Tryd.prog 19 #[.int .i64 task] W fun e w' => e = .returned (.string d0) ∧ w' = W)) (CN : (∀ W, Calls Tryd.prog 19 #[.int .i64 nth] W fun e w' => e = .returned (.string d1) ∧ w' = W)) (h1 : k ≠ 1) (h2 : k ≠ 2) (h3 : k ≠ 3) (h4 : k ≠ 4) (h5 : k ≠ 5) (h6 : k ≠ 6) (h7 : k ≠ 7) (z0 : d0.size ≤ 1000) (z1 : d1.size ≤ 1000) (z2 : s.size ≤ 1000) (z3 : t.size ≤ 1000) :
    Calls Tryd.prog 7 #[.agg #[.int .i64 k, .int .i64 task, .int .i64 nth, .int .i64 ck, .string cid, .int .i64 ct, .int .i64 cv, .int .i64 ch, .int .i64 mn, .int .i64 mx, .int .i64 tg, .int .i64 tol, .int .i64 win, .int .i64 hold, .int .i64 err, .int .i64 epoch, .int .i64 handle, .int .i64 cnt, .int .i64 sum, .int .i64 least, .int .i64 most, .int .i64 mean, .int .i64 atick, .int .i64 aload, .int .i64 awant, .int .i64 arepl, .int .i64 awhy, .int .u64 (hi : Nat), .int .u64 (lo : Nat), .int .i64 ntick, .int .i64 nload, .int .i64 nwant, .int .i64 nrepl, .int .i64 nwhy]] w fun e w' => e = .returned (.string (d0 ++ ⟨#[32]⟩ ++ ⟨#[63]⟩)) ∧ Below w.heap.size w w' := by
  have C0 := Lib.hid CT
  have C1 := Lib.hid CN
  have q1 : (k == 1) = false := by simpa using h1
  have p1 : decide (k = 1) = false := by simpa using h1
  have q2 : (k == 2) = false := by simpa using h2
  have p2 : decide (k = 2) = false := by simpa using h2
  have q3 : (k == 3) = false := by simpa using h3
  have p3 : decide (k = 3) = false := by simpa using h3
  have q4 : (k == 4) = false := by simpa using h4
  have p4 : decide (k = 4) = false := by simpa using h4
  have q5 : (k == 5) = false := by simpa using h5
  have p5 : decide (k = 5) = false := by simpa using h5
  have q6 : (k == 6) = false := by simpa using h6
  have p6 : decide (k = 6) = false := by simpa using h6
  have q7 : (k == 7) = false := by simpa using h7
  have p7 : decide (k = 7) = false := by simpa using h7
  clear h1 h2 h3 h4 h5 h6 h7
  clear CT CN
  go_enter Tryd.func7, Tryd.ntmps7
  go_wp2_with (first
    | (go_at_call 19; with_reducible refine (C0.out _).mono ?_; rintro e w' ⟨rfl, rfl⟩)
    | (go_at_call 19; with_reducible refine (C1.out _).mono ?_; rintro e w' ⟨rfl, rfl⟩))
  go_ret
  exact ⟨rfl, balloc (Below.refl _ _) _⟩

set_option maxRecDepth 100000 in
set_option maxHeartbeats 8000000 in
theorem rev_6 (w : World) (d0 d1 s t : ByteArray) (CT : (∀ W, Calls Tryd.prog 19 #[.int .i64 task] W fun e w' => e = .returned (.string d0) ∧ w' = W)) (CN : (∀ W, Calls Tryd.prog 19 #[.int .i64 nth] W fun e w' => e = .returned (.string d1) ∧ w' = W)) (CC : (∀ W, Below w.heap.size w W → Calls Tryd.prog 22 #[.agg #[.int .u64 (hi : Nat), .int .u64 (lo : Nat)]] W fun e w' => e = .returned (.string s) ∧ Below W.heap.size W w')) (CD : (∀ W, Below w.heap.size w W → Calls Tryd.prog 23 #[.agg #[.int .i64 ntick, .int .i64 nload, .int .i64 nwant, .int .i64 nrepl, .int .i64 nwhy]] W fun e w' => e = .returned (.string t) ∧ Below W.heap.size W w')) (z0 : d0.size ≤ 1000) (z1 : d1.size ≤ 1000) (z2 : s.size ≤ 1000) (z3 : t.size ≤ 1000) :
    Calls Tryd.prog 7 #[.agg #[.int .i64 6, .int .i64 task, .int .i64 nth, .int .i64 ck, .string cid, .int .i64 ct, .int .i64 cv, .int .i64 ch, .int .i64 mn, .int .i64 mx, .int .i64 tg, .int .i64 tol, .int .i64 win, .int .i64 hold, .int .i64 err, .int .i64 epoch, .int .i64 handle, .int .i64 cnt, .int .i64 sum, .int .i64 least, .int .i64 most, .int .i64 mean, .int .i64 atick, .int .i64 aload, .int .i64 awant, .int .i64 arepl, .int .i64 awhy, .int .u64 (hi : Nat), .int .u64 (lo : Nat), .int .i64 ntick, .int .i64 nload, .int .i64 nwant, .int .i64 nrepl, .int .i64 nwhy]] w fun e w' => e = .returned (.string (d0 ++ ⟨#[32]⟩ ++ ⟨#[110, 111, 116, 101, 100, 32]⟩ ++ s ++ ⟨#[32]⟩ ++ t)) ∧ Below w.heap.size w w' := by
  have C0 := Lib.hid CT
  have C1 := Lib.hid CN
  have C2 := Lib.hid CC
  have C3 := Lib.hid CD
  clear CC CD
  clear CT CN
  go_enter Tryd.func7, Tryd.ntmps7
  go_wp2_with (first
    | (go_at_call 19; with_reducible refine (C0.out _).mono ?_; rintro e w' ⟨rfl, rfl⟩)
    | (go_at_call 19; with_reducible refine (C1.out _).mono ?_; rintro e w' ⟨rfl, rfl⟩))
  refine name_world ?_
  intro W hW
  have hb0 : Below w.heap.size w W := by rw [hW]; exact balloc (Below.refl _ _) _
  have hx0 : W.heap[w.heap.size]? = some (.cells #[.int .i64 6, .int .i64 task, .int .i64 nth, .int .i64 ck, .string cid, .int .i64 ct, .int .i64 cv, .int .i64 ch, .int .i64 mn, .int .i64 mx, .int .i64 tg, .int .i64 tol, .int .i64 win, .int .i64 hold, .int .i64 err, .int .i64 epoch, .int .i64 handle, .int .i64 cnt, .int .i64 sum, .int .i64 least, .int .i64 most, .int .i64 mean, .int .i64 atick, .int .i64 aload, .int .i64 awant, .int .i64 arepl, .int .i64 awhy, .int .u64 (hi : Nat), .int .u64 (lo : Nat), .int .i64 ntick, .int .i64 nload, .int .i64 nwant, .int .i64 nrepl, .int .i64 nwhy] 42 (0, 0)) := by rw [hW]; exact heap_alloc_new _ _
  have HB4 := Lib.hid hb0
  have HX4 := Lib.hid hx0
  clear hW hb0 hx0
  have n1 : ¬ 9223372036854775807 < d0.size + 1 + 6 := by omega
  have n2 : ¬ 9223372036854775807 < d0.size + 1 + 6 + s.size := by omega
  have n3 : ¬ 9223372036854775807 < d0.size + 1 + 6 + s.size + 1 := by omega
  have n4 : ¬ 9223372036854775807 < d0.size + 1 + 6 + s.size + 1 + t.size := by omega
  refine wp_region_held_drew (S := (fun U : World => U.heap[w.heap.size]? = some (.cells #[.int .i64 6, .int .i64 task, .int .i64 nth, .int .i64 ck, .string cid, .int .i64 ct, .int .i64 cv, .int .i64 ch, .int .i64 mn, .int .i64 mx, .int .i64 tg, .int .i64 tol, .int .i64 win, .int .i64 hold, .int .i64 err, .int .i64 epoch, .int .i64 handle, .int .i64 cnt, .int .i64 sum, .int .i64 least, .int .i64 most, .int .i64 mean, .int .i64 atick, .int .i64 aload, .int .i64 awant, .int .i64 arepl, .int .i64 awhy, .int .u64 (hi : Nat), .int .u64 (lo : Nat), .int .i64 ntick, .int .i64 nload, .int .i64 nwant, .int .i64 nrepl, .int .i64 nwhy] 42 (0, 0)))) (by kernel_rfl) ?hS1 (fun hHeld => ?_)
  case hS1 => first | with_reducible exact HX4.out | exact HX4.out | with_reducible exact HX5.out | with_reducible exact HX6.out
  refine wpAnyH_take (i := 0) (v := ?v2) rfl (by kernel_rfl) (by kernel_rfl) (by kernel_rfl) (fun _ _ _ h => h) (Or.inl ⟨by rfl, ?hy2⟩) (by assumption) ?_
  case hy2 =>
    intro w' hSw
    (try dsimp only at hSw)
    go_simp
    try (with_reducible rfl)
  try simp only [Act.put, List.getElem_toArray, List.getElem_cons_succ, List.getElem_cons_zero, List.setIfInBounds_toArray, List.set_cons_zero, List.set_cons_succ]
  refine wpAnyH_take (i := 1) (v := ?v3) rfl (by kernel_rfl) (by kernel_rfl) (by kernel_rfl) (fun _ _ _ h => h) (Or.inl ⟨by rfl, ?hy3⟩) (by assumption) ?_
  case hy3 =>
    intro w' hSw
    (try dsimp only at hSw)
    go_simp
    try (with_reducible rfl)
  try simp only [Act.put, List.getElem_toArray, List.getElem_cons_succ, List.getElem_cons_zero, List.setIfInBounds_toArray, List.set_cons_zero, List.set_cons_succ]
  refine wpAnyH_take (i := 2) (v := ?v4) rfl (by kernel_rfl) (by kernel_rfl) (by kernel_rfl) (fun _ _ _ h => h) (Or.inl ⟨by rfl, ?hy4⟩) (by assumption) ?_
  case hy4 =>
    intro w' hSw
    (try dsimp only at hSw)
    go_simp
    try (with_reducible rfl)
  try simp only [Act.put, List.getElem_toArray, List.getElem_cons_succ, List.getElem_cons_zero, List.setIfInBounds_toArray, List.set_cons_zero, List.set_cons_succ]
  refine wpAnyH_take (i := 3) (v := ?v5) rfl (by kernel_rfl) (by kernel_rfl) (by kernel_rfl) (fun _ _ _ h => h) (Or.inl ⟨by rfl, ?hy5⟩) (by assumption) ?_
  case hy5 =>
    intro w' hSw
    (try dsimp only at hSw)
    have q0 := (box_cells (Below.refl _ _) hSw).1
    go_simp
    try (with_reducible rfl)
  try simp only [Act.put, List.getElem_toArray, List.getElem_cons_succ, List.getElem_cons_zero, List.setIfInBounds_toArray, List.set_cons_zero, List.set_cons_succ]
  refine wpAnyH_take (i := 7) (v := ?v6) rfl (by kernel_rfl) (by kernel_rfl) (by kernel_rfl) (fun _ _ _ h => h) (Or.inl ⟨by rfl, ?hy6⟩) (by assumption) ?_
  case hy6 =>
    intro w' hSw
    (try dsimp only at hSw)
    go_simp
    try (with_reducible rfl)
  try simp only [Act.put, List.getElem_toArray, List.getElem_cons_succ, List.getElem_cons_zero, List.setIfInBounds_toArray, List.set_cons_zero, List.set_cons_succ]
  refine wpAnyH_take (i := 8) (v := ?v7) rfl (by kernel_rfl) (by kernel_rfl) (by kernel_rfl) (fun _ _ _ h => h) (Or.inl ⟨by rfl, ?hy7⟩) (by assumption) ?_
  case hy7 =>
    intro w' hSw
    (try dsimp only at hSw)
    have q0 := (box_cells (Below.refl _ _) hSw).1
    go_simp
    try (with_reducible rfl)
  try simp only [Act.put, List.getElem_toArray, List.getElem_cons_succ, List.getElem_cons_zero, List.setIfInBounds_toArray, List.set_cons_zero, List.set_cons_succ]
  refine wpAnyH_ready (rs := [4]) (by kernel_rfl) (by simp) ?_
  refine AllReadyH.cons rfl (fun K hK => ?_) AllReadyH.nil
  go_simp
  go_at_call 22
  refine calls_named ?_
  intro W5 hW5
  have hb5 : Below W.heap.size W W5 := by rw [hW5]; first | exact Below.refl _ _ | exact (Below.refl _ _).drew
  clear hW5
  with_reducible refine (C2.out _ (bthen HB4.out hb5)).mono ?_
  rintro e w5 ⟨rfl, hb6⟩
  have hb7 := bthen hb5 hb6
  have HX5 := Lib.hid ((hb7.block _ (Array.getElem?_eq_some_iff.1 HX4.out).1).trans HX4.out)
  have HB5 := Lib.hid (bthen HB4.out hb7)
  clear hb5 hb6 hb7
  try go_simp
  refine hK.out _ _ ?hS8 (fun hHeld2 => ?_)
  case hS8 => first | with_reducible exact HX4.out | exact HX4.out | with_reducible exact HX5.out | with_reducible exact HX6.out
  clear hK K hHeld
  have hHeld := hHeld2
  clear hHeld2
  try simp only [Act.put, List.getElem_toArray, List.getElem_cons_succ, List.getElem_cons_zero, List.setIfInBounds_toArray, List.set_cons_zero, List.set_cons_succ]
  refine wpAnyH_take (i := 5) (v := ?v9) rfl (by kernel_rfl) (by kernel_rfl) (by kernel_rfl) (fun _ _ _ h => h) (Or.inl ⟨by rfl, ?hy9⟩) (by assumption) ?_
  case hy9 =>
    intro w' hSw
    (try dsimp only at hSw)
    go_simp
    try (with_reducible rfl)
  try simp only [Act.put, List.getElem_toArray, List.getElem_cons_succ, List.getElem_cons_zero, List.setIfInBounds_toArray, List.set_cons_zero, List.set_cons_succ]
  refine wpAnyH_take (i := 6) (v := ?v10) rfl (by kernel_rfl) (by kernel_rfl) (by kernel_rfl) (fun _ _ _ h => h) (Or.inl ⟨by rfl, ?hy10⟩) (by assumption) ?_
  case hy10 =>
    intro w' hSw
    (try dsimp only at hSw)
    go_simp
    try (with_reducible rfl)
  try simp only [Act.put, List.getElem_toArray, List.getElem_cons_succ, List.getElem_cons_zero, List.setIfInBounds_toArray, List.set_cons_zero, List.set_cons_succ]
  refine wpAnyH_ready (rs := [9]) (by kernel_rfl) (by simp) ?_
  refine AllReadyH.cons rfl (fun K hK => ?_) AllReadyH.nil
  go_simp
  go_at_call 23
  with_reducible refine (C3.out _ HB5.out).mono ?_
  rintro e w6 ⟨rfl, hb6⟩
  have HX6 := Lib.hid ((hb6.block _ (Array.getElem?_eq_some_iff.1 HX5.out).1).trans HX5.out)
  have HB6 := Lib.hid (bthen HB5.out hb6)
  clear hb6
  try go_simp
  refine hK.out _ _ ?hS11 (fun hHeld2 => ?_)
  case hS11 => first | with_reducible exact HX4.out | exact HX4.out | with_reducible exact HX5.out | with_reducible exact HX6.out
  clear hK K hHeld
  have hHeld := hHeld2
  clear hHeld2
  try simp only [Act.put, List.getElem_toArray, List.getElem_cons_succ, List.getElem_cons_zero, List.setIfInBounds_toArray, List.set_cons_zero, List.set_cons_succ]
  refine wpAnyH_take (i := 10) (v := ?v12) rfl (by kernel_rfl) (by kernel_rfl) (by kernel_rfl) (fun _ _ _ h => h) (Or.inl ⟨by rfl, ?hy12⟩) (by assumption) ?_
  case hy12 =>
    intro w' hSw
    (try dsimp only at hSw)
    go_simp
    try (with_reducible rfl)
  try simp only [Act.put, List.getElem_toArray, List.getElem_cons_succ, List.getElem_cons_zero, List.setIfInBounds_toArray, List.set_cons_zero, List.set_cons_succ]
  refine wpAnyH_take (i := 11) (v := ?v13) rfl (by kernel_rfl) (by kernel_rfl) (by kernel_rfl) (fun _ _ _ h => h) (Or.inl ⟨by rfl, ?hy13⟩) (by assumption) ?_
  case hy13 =>
    intro w' hSw
    (try dsimp only at hSw)
    go_simp
    try (with_reducible rfl)
  try simp only [Act.put, List.getElem_toArray, List.getElem_cons_succ, List.getElem_cons_zero, List.setIfInBounds_toArray, List.set_cons_zero, List.set_cons_succ]
  refine wpAnyH_done (by kernel_rfl) ?_ _
  go_wp2_with fail
  go_ret
  exact ⟨rfl, HB6.out⟩

end
end

end Go.Proofs.YtmndhffimlkjgaaDoor
