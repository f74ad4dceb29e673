/- A call's numbers: journal.numbers, flywheelref50.numbers. -/
import Derived.Test.YtfnabpmdjfejbaaDoorJSeal
namespace Go.Proofs.YtfnabpmdjfejbaaDoor
set_option linter.unusedSimpArgs false
set_option linter.unusedVariables false
open Go.RowKit Go.Lib

def numsC (c : CallD) : List Int :=
  if c.kind = 1 then [1, c.tick, c.val] else if c.kind = 2 then [2, c.tick] else if c.kind = 4 then [4, c.handle] else if c.kind = 5 then [5, c.handle, c.tick, c.val]
  else if c.kind = 6 then [6, c.pol.mn, c.pol.mx, c.pol.tg, c.pol.tol, c.pol.win, c.pol.hold] else [c.kind]
theorem numsC_len (c : CallD) : (numsC c).length ≤ 7 := by
  unfold numsC
  repeat' split
  all_goals simp
theorem numsC_i64 {c : CallD} (h : c.ok) : ∀ n ∈ numsC c, I64 n := by
  obtain ⟨h1, _, h2, h3, h4, h5, h6, h7, h8, h9, h10⟩ := h
  unfold numsC
  repeat' split
  all_goals
    simp only [List.forall_mem_cons, List.forall_mem_nil, and_true]
    (repeat' refine And.intro ?_ ?_)
    all_goals first | omega | (unfold I64 at *; omega) | (intro n hn; cases hn)
def NumSays (w : World) (l : List Int) (e : Ending) (w' : World) : Prop :=
  ∃ A c, e = .returned (.slice A l.length c) ∧ OwnL numC 2 1 w.heap.size w' (.slice A l.length c) l ∧ Below w.heap.size w w'

set_option maxRecDepth 100000 in
set_option maxHeartbeats 4000000 in
theorem jnum_1 (id : ByteArray) (tick val handle mn mx tg tol win hold : Int) (w : World) :
    Calls Tryd.prog 26 #[callV ⟨1, id, tick, val, handle, ⟨mn, mx, tg, tol, win, hold⟩⟩] w (NumSays w [1, tick, val]) := by
  unfold callV
  go_enter Tryd.func26, Tryd.ntmps26
  go_wp2_with (at_builtin
               refine wpList_appendL eNum (by rfl) (by rfl) w.heap.size [1] [tick, val] (.slice (some ⟨w.heap.size + 1, 0, none⟩) 1 1) _ (by first | rfl | simp) (by first | rfl | simp) ((OwnL.lits w.heap.size (w.alloc _) [(1 : Int)] _ (w.heap.size + 1) 1 (by simp) (by omega) rfl (by decide) rfl rfl).below (balloc (Below.refl _ _) _)) ((OwnL.lits w.heap.size _ [tick, val] _ (w.heap.size + 2) 2 (by simp) (by omega) rfl (by decide) rfl rfl).row eNum) (by simp) (by simp; omega) ?_
               intro out A c w2 hout hown hg _
               have hown1 := (OwnL.lits (f := numC) (e := 2) (n := 1) w.heap.size (w.alloc (.cells #[] 0)) [(1 : Int)] #[.int .i64 1] (w.heap.size + 1) 1 (by simp) (by omega) rfl (by decide) rfl rfl)
               have hb2 : Below w.heap.size w w2 := (balloc (balloc (balloc (Below.refl _ _) _) _) _).trans (grown_own hg hown1 (by simp; omega))
               have HW := Lib.hid hown
               have HOUT := Lib.hid hout
               have HB := Lib.hid hb2
               clear hown hout hg hb2 hown1)
  go_ret
  have h1 := HW.out
  rw [show out = [1, tick, val] from HOUT.out] at h1
  exact ⟨A, c, by rw [HOUT.out]; rfl, h1, HB.out⟩

set_option maxRecDepth 100000 in
set_option maxHeartbeats 4000000 in
theorem jnum_2 (id : ByteArray) (tick val handle mn mx tg tol win hold : Int) (w : World) :
    Calls Tryd.prog 26 #[callV ⟨2, id, tick, val, handle, ⟨mn, mx, tg, tol, win, hold⟩⟩] w (NumSays w [2, tick]) := by
  unfold callV
  go_enter Tryd.func26, Tryd.ntmps26
  go_wp2_with (at_builtin
               refine wpList_appendL eNum (by rfl) (by rfl) w.heap.size [2] [tick] (.slice (some ⟨w.heap.size + 1, 0, none⟩) 1 1) _ (by first | rfl | simp) (by first | rfl | simp) ((OwnL.lits w.heap.size (w.alloc _) [(2 : Int)] _ (w.heap.size + 1) 1 (by simp) (by omega) rfl (by decide) rfl rfl).below (balloc (Below.refl _ _) _)) ((OwnL.lits w.heap.size _ [tick] _ (w.heap.size + 2) 1 (by simp) (by omega) rfl (by decide) rfl rfl).row eNum) (by simp) (by simp; omega) ?_
               intro out A c w2 hout hown hg _
               have hown1 := (OwnL.lits (f := numC) (e := 2) (n := 1) w.heap.size (w.alloc (.cells #[] 0)) [(2 : Int)] #[.int .i64 2] (w.heap.size + 1) 1 (by simp) (by omega) rfl (by decide) rfl rfl)
               have hb2 : Below w.heap.size w w2 := (balloc (balloc (balloc (Below.refl _ _) _) _) _).trans (grown_own hg hown1 (by simp; omega))
               have HW := Lib.hid hown
               have HOUT := Lib.hid hout
               have HB := Lib.hid hb2
               clear hown hout hg hb2 hown1)
  go_ret
  have h1 := HW.out
  rw [show out = [2, tick] from HOUT.out] at h1
  exact ⟨A, c, by rw [HOUT.out]; rfl, h1, HB.out⟩

set_option maxRecDepth 100000 in
set_option maxHeartbeats 4000000 in
theorem jnum_4 (id : ByteArray) (tick val handle mn mx tg tol win hold : Int) (w : World) :
    Calls Tryd.prog 26 #[callV ⟨4, id, tick, val, handle, ⟨mn, mx, tg, tol, win, hold⟩⟩] w (NumSays w [4, handle]) := by
  unfold callV
  go_enter Tryd.func26, Tryd.ntmps26
  go_wp2_with (at_builtin
               refine wpList_appendL eNum (by rfl) (by rfl) w.heap.size [4] [handle] (.slice (some ⟨w.heap.size + 1, 0, none⟩) 1 1) _ (by first | rfl | simp) (by first | rfl | simp) ((OwnL.lits w.heap.size (w.alloc _) [(4 : Int)] _ (w.heap.size + 1) 1 (by simp) (by omega) rfl (by decide) rfl rfl).below (balloc (Below.refl _ _) _)) ((OwnL.lits w.heap.size _ [handle] _ (w.heap.size + 2) 1 (by simp) (by omega) rfl (by decide) rfl rfl).row eNum) (by simp) (by simp; omega) ?_
               intro out A c w2 hout hown hg _
               have hown1 := (OwnL.lits (f := numC) (e := 2) (n := 1) w.heap.size (w.alloc (.cells #[] 0)) [(4 : Int)] #[.int .i64 4] (w.heap.size + 1) 1 (by simp) (by omega) rfl (by decide) rfl rfl)
               have hb2 : Below w.heap.size w w2 := (balloc (balloc (balloc (Below.refl _ _) _) _) _).trans (grown_own hg hown1 (by simp; omega))
               have HW := Lib.hid hown
               have HOUT := Lib.hid hout
               have HB := Lib.hid hb2
               clear hown hout hg hb2 hown1)
  go_ret
  have h1 := HW.out
  rw [show out = [4, handle] from HOUT.out] at h1
  exact ⟨A, c, by rw [HOUT.out]; rfl, h1, HB.out⟩

set_option maxRecDepth 100000 in
set_option maxHeartbeats 4000000 in
theorem jnum_5 (id : ByteArray) (tick val handle mn mx tg tol win hold : Int) (w : World) :
    Calls Tryd.prog 26 #[callV ⟨5, id, tick, val, handle, ⟨mn, mx, tg, tol, win, hold⟩⟩] w (NumSays w [5, handle, tick, val]) := by
  unfold callV
  go_enter Tryd.func26, Tryd.ntmps26
  go_wp2_with (at_builtin
               refine wpList_appendL eNum (by rfl) (by rfl) w.heap.size [5] [handle, tick, val] (.slice (some ⟨w.heap.size + 1, 0, none⟩) 1 1) _ (by first | rfl | simp) (by first | rfl | simp) ((OwnL.lits w.heap.size (w.alloc _) [(5 : Int)] _ (w.heap.size + 1) 1 (by simp) (by omega) rfl (by decide) rfl rfl).below (balloc (Below.refl _ _) _)) ((OwnL.lits w.heap.size _ [handle, tick, val] _ (w.heap.size + 2) 3 (by simp) (by omega) rfl (by decide) rfl rfl).row eNum) (by simp) (by simp; omega) ?_
               intro out A c w2 hout hown hg _
               have hown1 := (OwnL.lits (f := numC) (e := 2) (n := 1) w.heap.size (w.alloc (.cells #[] 0)) [(5 : Int)] #[.int .i64 5] (w.heap.size + 1) 1 (by simp) (by omega) rfl (by decide) rfl rfl)
               have hb2 : Below w.heap.size w w2 := (balloc (balloc (balloc (Below.refl _ _) _) _) _).trans (grown_own hg hown1 (by simp; omega))
               have HW := Lib.hid hown
               have HOUT := Lib.hid hout
               have HB := Lib.hid hb2
               clear hown hout hg hb2 hown1)
  go_ret
  have h1 := HW.out
  rw [show out = [5, handle, tick, val] from HOUT.out] at h1
  exact ⟨A, c, by rw [HOUT.out]; rfl, h1, HB.out⟩

set_option maxRecDepth 100000 in
set_option maxHeartbeats 4000000 in
theorem jnum_6 (id : ByteArray) (tick val handle mn mx tg tol win hold : Int) (w : World) :
    Calls Tryd.prog 26 #[callV ⟨6, id, tick, val, handle, ⟨mn, mx, tg, tol, win, hold⟩⟩] w (NumSays w [6, mn, mx, tg, tol, win, hold]) := by
  unfold callV
  go_enter Tryd.func26, Tryd.ntmps26
  go_wp2_with (at_builtin
               refine wpList_appendL eNum (by rfl) (by rfl) w.heap.size [6] [mn, mx, tg, tol, win, hold] (.slice (some ⟨w.heap.size + 1, 0, none⟩) 1 1) _ (by first | rfl | simp) (by first | rfl | simp) ((OwnL.lits w.heap.size (w.alloc _) [(6 : Int)] _ (w.heap.size + 1) 1 (by simp) (by omega) rfl (by decide) rfl rfl).below (balloc (balloc (Below.refl _ _) _) _)) ((OwnL.lits w.heap.size _ [mn, mx, tg, tol, win, hold] _ (w.heap.size + 3) 6 (by simp) (by omega) rfl (by decide) rfl rfl).row eNum) (by simp) (by simp; omega) ?_
               intro out A c w2 hout hown hg _
               have hown1 := (OwnL.lits (f := numC) (e := 2) (n := 1) w.heap.size (w.alloc (.cells #[] 0)) [(6 : Int)] #[.int .i64 6] (w.heap.size + 1) 1 (by simp) (by omega) rfl (by decide) rfl rfl)
               have hb2 : Below w.heap.size w w2 := (balloc (balloc (balloc (balloc (Below.refl _ _) _) _) _) _).trans (grown_own hg hown1 (by simp; omega))
               have HW := Lib.hid hown
               have HOUT := Lib.hid hout
               have HB := Lib.hid hb2
               clear hown hout hg hb2 hown1)
  go_ret
  have h1 := HW.out
  rw [show out = [6, mn, mx, tg, tol, win, hold] from HOUT.out] at h1
  exact ⟨A, c, by rw [HOUT.out]; rfl, h1, HB.out⟩

set_option maxRecDepth 100000 in
set_option maxHeartbeats 4000000 in
theorem jnum_0 (k : Int) (h1 : k ≠ 1) (h2 : k ≠ 2) (h4 : k ≠ 4) (h5 : k ≠ 5) (h6 : k ≠ 6) (id : ByteArray) (tick val handle mn mx tg tol win hold : Int) (w : World) :
    Calls Tryd.prog 26 #[callV ⟨k, id, tick, val, handle, ⟨mn, mx, tg, tol, win, hold⟩⟩] w (NumSays w [k]) := by
  have q1 : (k == 1) = false := by simp [h1]
  have q2 : (k == 2) = false := by simp [h2]
  have q4 : (k == 4) = false := by simp [h4]
  have q5 : (k == 5) = false := by simp [h5]
  have q6 : (k == 6) = false := by simp [h6]
  clear h1 h2 h4 h5 h6
  unfold callV
  go_enter Tryd.func26, Tryd.ntmps26
  go_wp2
  go_ret
  exact ⟨_, _, by first | rfl | (simp; done), OwnL.lits (e := 2) w.heap.size (w.alloc _) [k] _ (w.heap.size + 1) 1 (by simp) (by omega) rfl (by decide) rfl rfl, balloc (balloc (Below.refl _ _) _) _⟩

theorem jnum_any (c : CallD) (w : World) : Calls Tryd.prog 26 #[callV c] w (NumSays w (numsC c)) := by
  obtain ⟨k, id, tick, val, handle, mn, mx, tg, tol, win, hold⟩ := c
  unfold numsC
  dsimp only
  by_cases h1 : k = 1
  · subst h1; exact jnum_1 id tick val handle mn mx tg tol win hold w
  by_cases h2 : k = 2
  · subst h2; exact jnum_2 id tick val handle mn mx tg tol win hold w
  by_cases h4 : k = 4
  · subst h4; exact jnum_4 id tick val handle mn mx tg tol win hold w
  by_cases h5 : k = 5
  · subst h5; exact jnum_5 id tick val handle mn mx tg tol win hold w
  by_cases h6 : k = 6
  · subst h6; exact jnum_6 id tick val handle mn mx tg tol win hold w
  rw [if_neg h1, if_neg h2, if_neg h4, if_neg h5, if_neg h6]
  exact jnum_0 k h1 h2 h4 h5 h6 id tick val handle mn mx tg tol win hold w

set_option maxRecDepth 100000 in
set_option maxHeartbeats 4000000 in
theorem rnum_1 (id : ByteArray) (tick val handle mn mx tg tol win hold : Int) (w : World) :
    Calls Tryd.prog 31 #[callV ⟨1, id, tick, val, handle, ⟨mn, mx, tg, tol, win, hold⟩⟩] w (NumSays w [1, tick, val]) := by
  unfold callV
  go_enter Tryd.func31, Tryd.ntmps31
  go_wp2
  go_ret
  exact ⟨_, _, by first | rfl | (simp; done), OwnL.lits (e := 2) w.heap.size (w.alloc _) [1, tick, val] _ (w.heap.size + 1) 3 (by simp) (by omega) rfl (by decide) rfl rfl, balloc (balloc (Below.refl _ _) _) _⟩

set_option maxRecDepth 100000 in
set_option maxHeartbeats 4000000 in
theorem rnum_2 (id : ByteArray) (tick val handle mn mx tg tol win hold : Int) (w : World) :
    Calls Tryd.prog 31 #[callV ⟨2, id, tick, val, handle, ⟨mn, mx, tg, tol, win, hold⟩⟩] w (NumSays w [2, tick]) := by
  unfold callV
  go_enter Tryd.func31, Tryd.ntmps31
  go_wp2
  go_ret
  exact ⟨_, _, by first | rfl | (simp; done), OwnL.lits (e := 2) w.heap.size (w.alloc _) [2, tick] _ (w.heap.size + 1) 2 (by simp) (by omega) rfl (by decide) rfl rfl, balloc (balloc (Below.refl _ _) _) _⟩

set_option maxRecDepth 100000 in
set_option maxHeartbeats 4000000 in
theorem rnum_4 (id : ByteArray) (tick val handle mn mx tg tol win hold : Int) (w : World) :
    Calls Tryd.prog 31 #[callV ⟨4, id, tick, val, handle, ⟨mn, mx, tg, tol, win, hold⟩⟩] w (NumSays w [4, handle]) := by
  unfold callV
  go_enter Tryd.func31, Tryd.ntmps31
  go_wp2
  go_ret
  exact ⟨_, _, by first | rfl | (simp; done), OwnL.lits (e := 2) w.heap.size (w.alloc _) [4, handle] _ (w.heap.size + 1) 2 (by simp) (by omega) rfl (by decide) rfl rfl, balloc (balloc (Below.refl _ _) _) _⟩

set_option maxRecDepth 100000 in
set_option maxHeartbeats 4000000 in
theorem rnum_5 (id : ByteArray) (tick val handle mn mx tg tol win hold : Int) (w : World) :
    Calls Tryd.prog 31 #[callV ⟨5, id, tick, val, handle, ⟨mn, mx, tg, tol, win, hold⟩⟩] w (NumSays w [5, handle, tick, val]) := by
  unfold callV
  go_enter Tryd.func31, Tryd.ntmps31
  go_wp2
  go_ret
  exact ⟨_, _, by first | rfl | (simp; done), OwnL.lits (e := 2) w.heap.size (w.alloc _) [5, handle, tick, val] _ (w.heap.size + 1) 4 (by simp) (by omega) rfl (by decide) rfl rfl, balloc (balloc (Below.refl _ _) _) _⟩

set_option maxRecDepth 100000 in
set_option maxHeartbeats 4000000 in
theorem rnum_6 (id : ByteArray) (tick val handle mn mx tg tol win hold : Int) (w : World) :
    Calls Tryd.prog 31 #[callV ⟨6, id, tick, val, handle, ⟨mn, mx, tg, tol, win, hold⟩⟩] w (NumSays w [6, mn, mx, tg, tol, win, hold]) := by
  unfold callV
  go_enter Tryd.func31, Tryd.ntmps31
  go_wp2
  go_ret
  exact ⟨_, _, by first | rfl | (simp; done), OwnL.lits (e := 2) w.heap.size ((w.alloc _).alloc _) [6, mn, mx, tg, tol, win, hold] _ (w.heap.size + 2) 7 (by simp) (by omega) rfl (by decide) rfl rfl, balloc (balloc (balloc (Below.refl _ _) _) _) _⟩

set_option maxRecDepth 100000 in
set_option maxHeartbeats 4000000 in
theorem rnum_0 (k : Int) (h1 : k ≠ 1) (h2 : k ≠ 2) (h4 : k ≠ 4) (h5 : k ≠ 5) (h6 : k ≠ 6) (id : ByteArray) (tick val handle mn mx tg tol win hold : Int) (w : World) :
    Calls Tryd.prog 31 #[callV ⟨k, id, tick, val, handle, ⟨mn, mx, tg, tol, win, hold⟩⟩] w (NumSays w [k]) := by
  have q1 : (k == 1) = false := by simp [h1]
  have q2 : (k == 2) = false := by simp [h2]
  have q4 : (k == 4) = false := by simp [h4]
  have q5 : (k == 5) = false := by simp [h5]
  have q6 : (k == 6) = false := by simp [h6]
  clear h1 h2 h4 h5 h6
  unfold callV
  go_enter Tryd.func31, Tryd.ntmps31
  go_wp2
  go_ret
  exact ⟨_, _, by first | rfl | (simp; done), OwnL.lits (e := 2) w.heap.size (w.alloc _) [k] _ (w.heap.size + 1) 1 (by simp) (by omega) rfl (by decide) rfl rfl, balloc (balloc (Below.refl _ _) _) _⟩

theorem rnum_any (c : CallD) (w : World) : Calls Tryd.prog 31 #[callV c] w (NumSays w (numsC c)) := by
  obtain ⟨k, id, tick, val, handle, mn, mx, tg, tol, win, hold⟩ := c
  unfold numsC
  dsimp only
  by_cases h1 : k = 1
  · subst h1; exact rnum_1 id tick val handle mn mx tg tol win hold w
  by_cases h2 : k = 2
  · subst h2; exact rnum_2 id tick val handle mn mx tg tol win hold w
  by_cases h4 : k = 4
  · subst h4; exact rnum_4 id tick val handle mn mx tg tol win hold w
  by_cases h5 : k = 5
  · subst h5; exact rnum_5 id tick val handle mn mx tg tol win hold w
  by_cases h6 : k = 6
  · subst h6; exact rnum_6 id tick val handle mn mx tg tol win hold w
  rw [if_neg h1, if_neg h2, if_neg h4, if_neg h5, if_neg h6]
  exact rnum_0 k h1 h2 h4 h5 h6 id tick val handle mn mx tg tol win hold w
end Go.Proofs.YtfnabpmdjfejbaaDoor
