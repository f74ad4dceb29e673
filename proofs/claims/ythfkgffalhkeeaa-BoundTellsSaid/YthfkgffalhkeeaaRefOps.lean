/- Walks of flywheelref29.Ops. -/
import Derived.Test.YthfkgffalhkeeaaRefInner
namespace Go.Proofs.Ythfkgffalhkeeaa
open Go.RowKit Go.Lib

theorem refInner_any (s : Nat) (sa lo hi kind : Int) (id : ByteArray) (tick val handle a b tg tol win hold : Int) (w : World) (h0 : 0 < s) (h1 : s ≤ 64) (hid : id.size ≤ maxLen) (hc : Cfg.ok ⟨(s : Nat), sa, lo, hi⟩) :
    Calls Try.prog 49 #[cfgV ⟨(s : Nat), sa, lo, hi⟩, callV (callK kind id tick val handle a b tg tol win hold)] w (OpsRet 80 w (innerL s (homeI (s : Nat) id) kind)) := by
  have hcase : kind = 1 ∨ kind = 2 ∨ kind = 3 ∨ kind = 4 ∨ kind = 5 ∨ kind = 6 ∨ kind = 7 ∨ (kind ≠ 1 ∧ kind ≠ 2 ∧ kind ≠ 3 ∧ kind ≠ 4 ∧ kind ≠ 5 ∧ kind ≠ 6 ∧ kind ≠ 7) := by omega
  rcases hcase with rfl | rfl | rfl | rfl | rfl | rfl | rfl | h
  · exact refInner_1 s sa lo hi id tick val handle a b tg tol win hold w h0 h1 hid hc
  · exact refInner_2 s sa lo hi id tick val handle a b tg tol win hold w h0 h1 hid hc
  · exact refInner_3 s sa lo hi id tick val handle a b tg tol win hold w h0 h1 hid hc
  · exact refInner_4 s sa lo hi id tick val handle a b tg tol win hold w h0 h1 hid hc
  · exact refInner_5 s sa lo hi id tick val handle a b tg tol win hold w h0 h1 hid hc
  · exact refInner_6 s sa lo hi id tick val handle a b tg tol win hold w h0 h1 hid hc
  · exact refInner_7 s sa lo hi id tick val handle a b tg tol win hold w h0 h1 hid hc
  · exact refInner_no s sa lo hi id tick val handle a b tg tol win hold w h0 h1 hid hc kind h

set_option maxRecDepth 100000 in
set_option maxHeartbeats 2000000 in
theorem refOps_no (c : Cfg) (x : CallD) (w : World) (hc : c.ok) (hB : cfgB c = false) :
    Calls Try.prog 37 #[cfgV c, callV x] w fun e w' => e = .returned (.slice none 0 0) ∧ Below w.heap.size w w' := by
  obtain ⟨st, sa, lo, hi⟩ := c
  obtain ⟨kind, id, tick, val, handle, ⟨a, b, tg, tol, win, hold⟩⟩ := x
  have hr : cfgB ⟨st, sa, lo, hi⟩ = false := hB
  have HR := Lib.hid hr
  clear hr hB
  unfold cfgV callV
  simp only
  go_enter Try.func37, Try.ntmps37
  go_wp2_with (go_at_call 44; refine (ref17Right_any ⟨st, sa, lo, hi⟩ _).mono ?_; rw [HR.out]; rintro e w1 ⟨rfl, hb1⟩)
  go_ret
  exact ⟨rfl, bthen (balloc (balloc (Below.refl _ _) _) _) hb1⟩

set_option maxRecDepth 100000 in
set_option maxHeartbeats 2000000 in
theorem refOps_bad (s : Nat) (sa lo hi : Int) (x : CallD) (w : World) (hc : Cfg.ok ⟨(s : Nat), sa, lo, hi⟩) (hx : x.ok) (hB : cfgB ⟨(s : Nat), sa, lo, hi⟩ = true) (hC : chkC x ≠ 0) :
    Calls Try.prog 37 #[cfgV ⟨(s : Nat), sa, lo, hi⟩, callV x] w (OpsRet 80 w [(1, 0), (7, 0)]) := by
  obtain ⟨kind, id, tick, val, handle, ⟨a, b, tg, tol, win, hold⟩⟩ := x
  obtain ⟨i0, hi0, hz0, hz1, hz2⟩ := info_parts refOp_info
  have hr : cfgB ⟨(s : Nat), sa, lo, hi⟩ = true := hB
  have HR := Lib.hid hr
  have HC : Hid ((chkC ⟨kind, id, tick, val, handle, ⟨a, b, tg, tol, win, hold⟩⟩ == 0) = false) := Lib.hid (by simpa using hC)
  have HX := Lib.hid hx
  clear hr hB hC
  unfold cfgV callV
  simp only
  go_enter Try.func37, Try.ntmps37
  go_wp2_with (first
    | (go_at_call 44; refine (ref17Right_any ⟨(s : Nat), sa, lo, hi⟩ _).mono ?_; rw [HR.out]; rintro e w1 ⟨rfl, hb1⟩; have hown1 := World.ownsRow_lit (base := w1.heap.size) (size := 2) (e := 80) w1 #[.int .i64 1, .int .i64 0] 1 (Nat.le_refl _) (by decide) rfl; have hA1 := keep2c (start2 w _ _ _ _) hb1 rfl; have q0 := hA1.1; have q1 := hA1.2.1; have q2 := hA1.2.2.2)
    | (go_at_call 36; refine (ref21Check_any ⟨kind, id, tick, val, handle, ⟨a, b, tg, tol, win, hold⟩⟩ _ hx).mono ?_; rintro e w2 ⟨rfl, hb2⟩; have hown2 := own_below hown1 hb2; have hC2 := HC.out)
    | (at_builtin; refine wpList_append_own _ rfl (.tmp 19) (.tmp 21) 67 rfl _ 80 i0 _ 2 16 Try.underlying67 hi0 hz0 hz1 hz2 rfl (by decide) _ 1 _ rfl (hown2.alloc _) ⟨_, 0, none⟩ 1 1 [.int .i64 7, .int .i64 0] rfl rfl (cell_two_new _ _ _ _) (two_int _ _) (by simp only [maxLen]; omega) (by omega) (by have := hb2.size; simp at this ⊢; omega) ?_; intro v9 w9 hown9 hgrow9 _))
  obtain ⟨g, cap, hv, hg1, hg2⟩ := hown9.form (by omega)
  have hlt := hown2.lt
  have hz1' := hb1.size
  have hz2' := hb2.size
  simp at hz1' hz2'
  have hfin : Below w.heap.size w w9 := (balloc (bthen (balloc (bthen (balloc (balloc (Below.refl _ _) _) _) hb1) _) hb2) _).grown hgrow9 (by simp; omega) (fun q hq => Nat.le_trans (by omega) (hlt q hq).1)
  subst hv
  go_ret
  exact opsRet_mk hown9 hfin rfl rfl (by omega)

set_option maxRecDepth 100000 in
set_option maxHeartbeats 2000000 in
theorem refOps_good (s : Nat) (sa lo hi : Int) (x : CallD) (w : World) (h0 : 0 < s) (h1 : s ≤ 64) (hc : Cfg.ok ⟨(s : Nat), sa, lo, hi⟩) (hx : x.ok) (hB : cfgB ⟨(s : Nat), sa, lo, hi⟩ = true) (hC : chkC x = 0) :
    Calls Try.prog 37 #[cfgV ⟨(s : Nat), sa, lo, hi⟩, callV x] w (OpsRet 80 w ([(1, 0)] ++ innerL s (homeI (s : Nat) x.id) x.kind ++ [(7, 0)])) := by
  obtain ⟨kind, id, tick, val, handle, ⟨a, b, tg, tol, win, hold⟩⟩ := x
  obtain ⟨i0, hi0, hz0, hz1, hz2⟩ := info_parts refOp_info
  have hr : cfgB ⟨(s : Nat), sa, lo, hi⟩ = true := hB
  have HR := Lib.hid hr
  have HC := Lib.hid hC
  have hlen := innerL_len s (homeI (s : Nat) id) kind h0 h1
  simp only
  clear hr hB hC
  unfold cfgV callV
  simp only
  go_enter Try.func37, Try.ntmps37
  go_wp2_with (first
    | (go_at_call 44; refine (ref17Right_any ⟨(s : Nat), sa, lo, hi⟩ _).mono ?_; rw [HR.out]; rintro e w1 ⟨rfl, hb1⟩; have hown1 := World.ownsRow_lit (base := w1.heap.size) (size := 2) (e := 80) w1 #[.int .i64 1, .int .i64 0] 1 (Nat.le_refl _) (by decide) rfl; have hA1 := keep2c (start2 w _ _ _ _) hb1 rfl; have q0 := hA1.1; have q1 := hA1.2.1; have q2 := hA1.2.2.2)
    | (go_at_call 36; refine (ref21Check_any ⟨kind, id, tick, val, handle, ⟨a, b, tg, tol, win, hold⟩⟩ _ hx).mono ?_; rw [HC.out]; rintro e w2 ⟨rfl, hb2⟩; have hown2 := own_below hown1 hb2; have hA2 := keep2c (alloc2 hA1 _) hb2 rfl; have r0 := hA2.1; have r1 := hA2.2.1; have r2 := hA2.2.2.2)
    | (go_at_call 49; refine (refInner_any s sa lo hi kind id tick val handle a b tg tol win hold _ h0 h1 hx.2.1 hc).mono ?_; unfold OpsRet; rintro e w3 ⟨g3, c3, rfl, hin3, hb3⟩; have hown3 := own_below hown2 hb3)
    | (at_builtin; (refine wpList_append_own _ rfl (.tmp 14) (.tmp 17) 67 rfl _ 80 i0 _ 2 16 Try.underlying67 hi0 hz0 hz1 hz2 rfl (by decide) _ 1 _ rfl hown3 ⟨g3, 0, none⟩ _ c3 _ rfl (opsV_len _) (hin3.cells rfl) (opsV_one _) (by simp only [maxLen]; omega) (by omega) (by have h2 := hb2.size; have h3 := hb3.size; simp at h2 h3 ⊢; omega) ?_); intro v8 w8 hown8 hgrow8 _)
    | (at_builtin; refine wpList_append_own _ rfl (.tmp 19) (.tmp 21) 67 rfl _ 80 i0 _ 2 16 Try.underlying67 hi0 hz0 hz1 hz2 rfl (by decide) v8 _ _ rfl (hown8.alloc _) ⟨_, 0, none⟩ 1 1 [.int .i64 7, .int .i64 0] rfl rfl (cell_two_new _ _ _ _) (two_int _ _) (by simp only [maxLen]; omega) (by omega) (by have h2 := hb2.size; have h3 := hb3.size; have h4 := hgrow8.size; simp at h2 h3 h4 ⊢; omega) ?_; intro v9 w9 hown9 hgrow9 _))
  obtain ⟨g, cap, hv, hg1, hg2⟩ := hown9.form (by omega)
  have hlt := hown3.lt
  have hlt8 := hown8.lt
  have hz1' := hb1.size
  have hz2' := hb2.size
  have hz3' := hb3.size
  have hz8' := hgrow8.size
  simp at hz1' hz2' hz3' hz8'
  have hfin8 : Below w.heap.size w w8 := (bthen (bthen (balloc (bthen (balloc (balloc (Below.refl _ _) _) _) hb1) _) hb2) hb3).grown hgrow8 (by omega) (fun q hq => Nat.le_trans (by omega) (hlt q hq).1)
  have hfin : Below w.heap.size w w9 := (balloc hfin8 _).grown hgrow9 (by simp; omega) (fun q hq => Nat.le_trans (by omega) (hlt8 q hq).1)
  subst hv
  go_ret
  exact opsRet_mk hown9 hfin (by simp; omega) (by simp [opsV]) (by omega)

end Go.Proofs.Ythfkgffalhkeeaa
