/- line.Verb, Bare; flywheelref41.Verb, Bare: kind by kind. -/
import Derived.Test.YtfnabpmdjfejbaaDoorJBare
namespace Go.Proofs.YtfnabpmdjfejbaaDoor
set_option linter.unusedSimpArgs false
set_option linter.unusedVariables false
open Go.RowKit Go.Lib

def bareC (c : CallD) : CallD :=
  if c.kind = 1 then ⟨1, c.id, c.tick, c.val, 0, polZ⟩ else if c.kind = 2 then ⟨2, ⟨#[]⟩, c.tick, 0, 0, polZ⟩ else if c.kind = 4 then ⟨4, ⟨#[]⟩, 0, 0, c.handle, polZ⟩
  else if c.kind = 5 then ⟨5, c.id, c.tick, c.val, c.handle, polZ⟩ else if c.kind = 6 then ⟨6, c.id, 0, 0, 0, c.pol⟩ else if c.kind = 7 then ⟨7, c.id, 0, 0, 0, polZ⟩ else ⟨c.kind, ⟨#[]⟩, 0, 0, 0, polZ⟩
theorem idx9 (i : Nat) (cs : Array Value) (v : Value) (w : World) (h : cs[i]? = some v) (h1 : i < 9) :
    (Instr.index 120 (.agg cs) (.int .i64 (i : Nat))).run Tryd.prog w = .ok v w := by
  have h2 : (i : Int) < 9 := by omega
  simp [Instr.index, run_underlying Tryd.underlying120, asIntOf, go_sem, h1, h2, h]
theorem idx6 (i : Nat) (cs : Array Value) (v : Value) (w : World) (h : cs[i]? = some v) (h1 : i < 6) :
    (Instr.index 126 (.agg cs) (.int .i64 (i : Nat))).run Tryd.prog w = .ok v w := by
  have h2 : (i : Int) < 6 := by omega
  simp [Instr.index, run_underlying Tryd.underlying126, asIntOf, go_sem, h1, h2, h]
theorem idxn (i : Nat) (cs : Array Value) (v : Value) (w : World) (h : cs[i]? = some v) (h1 : i < 6) :
    (Instr.index 124 (.agg cs) (.int .i64 (i : Nat))).run Tryd.prog w = .ok v w := by
  have h2 : (i : Int) < 6 := by omega
  simp [Instr.index, run_underlying Tryd.underlying124, asIntOf, go_sem, h1, h2, h]

set_option maxRecDepth 100000 in
set_option maxHeartbeats 4000000 in
theorem verb_1 (w : World) : Calls Tryd.prog 48 #[.int .i64 1] w fun e w' => e = .returned (.string ⟨#[105, 110, 103, 101, 115, 116]⟩) ∧ Below w.heap.size w w' := by
  have hi : ∀ W, (Instr.index 120 verbsV (.int .i64 1)).run Tryd.prog W = .ok (.string ⟨#[105, 110, 103, 101, 115, 116]⟩) W := fun W => idx9 1 _ _ W rfl (by decide)
  unfold verbsV at hi
  go_enter Tryd.func48, Tryd.ntmps48
  go_wp2_with (go_at_call 69; refine (verbs_any w).mono ?_; unfold verbsV; rintro e w1 ⟨rfl, hb1⟩)
  go_ret
  exact ⟨rfl, hb1⟩

set_option maxRecDepth 100000 in
set_option maxHeartbeats 4000000 in
theorem verb_2 (w : World) : Calls Tryd.prog 48 #[.int .i64 2] w fun e w' => e = .returned (.string ⟨#[116, 114, 105, 109]⟩) ∧ Below w.heap.size w w' := by
  have hi : ∀ W, (Instr.index 120 verbsV (.int .i64 2)).run Tryd.prog W = .ok (.string ⟨#[116, 114, 105, 109]⟩) W := fun W => idx9 2 _ _ W rfl (by decide)
  unfold verbsV at hi
  go_enter Tryd.func48, Tryd.ntmps48
  go_wp2_with (go_at_call 69; refine (verbs_any w).mono ?_; unfold verbsV; rintro e w1 ⟨rfl, hb1⟩)
  go_ret
  exact ⟨rfl, hb1⟩

set_option maxRecDepth 100000 in
set_option maxHeartbeats 4000000 in
theorem verb_3 (w : World) : Calls Tryd.prog 48 #[.int .i64 3] w fun e w' => e = .returned (.string ⟨#[115, 110, 97, 112]⟩) ∧ Below w.heap.size w w' := by
  have hi : ∀ W, (Instr.index 120 verbsV (.int .i64 3)).run Tryd.prog W = .ok (.string ⟨#[115, 110, 97, 112]⟩) W := fun W => idx9 3 _ _ W rfl (by decide)
  unfold verbsV at hi
  go_enter Tryd.func48, Tryd.ntmps48
  go_wp2_with (go_at_call 69; refine (verbs_any w).mono ?_; unfold verbsV; rintro e w1 ⟨rfl, hb1⟩)
  go_ret
  exact ⟨rfl, hb1⟩

set_option maxRecDepth 100000 in
set_option maxHeartbeats 4000000 in
theorem verb_4 (w : World) : Calls Tryd.prog 48 #[.int .i64 4] w fun e w' => e = .returned (.string ⟨#[102, 114, 101, 101]⟩) ∧ Below w.heap.size w w' := by
  have hi : ∀ W, (Instr.index 120 verbsV (.int .i64 4)).run Tryd.prog W = .ok (.string ⟨#[102, 114, 101, 101]⟩) W := fun W => idx9 4 _ _ W rfl (by decide)
  unfold verbsV at hi
  go_enter Tryd.func48, Tryd.ntmps48
  go_wp2_with (go_at_call 69; refine (verbs_any w).mono ?_; unfold verbsV; rintro e w1 ⟨rfl, hb1⟩)
  go_ret
  exact ⟨rfl, hb1⟩

set_option maxRecDepth 100000 in
set_option maxHeartbeats 4000000 in
theorem verb_5 (w : World) : Calls Tryd.prog 48 #[.int .i64 5] w fun e w' => e = .returned (.string ⟨#[108, 111, 111, 107]⟩) ∧ Below w.heap.size w w' := by
  have hi : ∀ W, (Instr.index 120 verbsV (.int .i64 5)).run Tryd.prog W = .ok (.string ⟨#[108, 111, 111, 107]⟩) W := fun W => idx9 5 _ _ W rfl (by decide)
  unfold verbsV at hi
  go_enter Tryd.func48, Tryd.ntmps48
  go_wp2_with (go_at_call 69; refine (verbs_any w).mono ?_; unfold verbsV; rintro e w1 ⟨rfl, hb1⟩)
  go_ret
  exact ⟨rfl, hb1⟩

set_option maxRecDepth 100000 in
set_option maxHeartbeats 4000000 in
theorem verb_6 (w : World) : Calls Tryd.prog 48 #[.int .i64 6] w fun e w' => e = .returned (.string ⟨#[115, 101, 116]⟩) ∧ Below w.heap.size w w' := by
  have hi : ∀ W, (Instr.index 120 verbsV (.int .i64 6)).run Tryd.prog W = .ok (.string ⟨#[115, 101, 116]⟩) W := fun W => idx9 6 _ _ W rfl (by decide)
  unfold verbsV at hi
  go_enter Tryd.func48, Tryd.ntmps48
  go_wp2_with (go_at_call 69; refine (verbs_any w).mono ?_; unfold verbsV; rintro e w1 ⟨rfl, hb1⟩)
  go_ret
  exact ⟨rfl, hb1⟩

set_option maxRecDepth 100000 in
set_option maxHeartbeats 4000000 in
theorem verb_7 (w : World) : Calls Tryd.prog 48 #[.int .i64 7] w fun e w' => e = .returned (.string ⟨#[114, 101, 97, 100]⟩) ∧ Below w.heap.size w w' := by
  have hi : ∀ W, (Instr.index 120 verbsV (.int .i64 7)).run Tryd.prog W = .ok (.string ⟨#[114, 101, 97, 100]⟩) W := fun W => idx9 7 _ _ W rfl (by decide)
  unfold verbsV at hi
  go_enter Tryd.func48, Tryd.ntmps48
  go_wp2_with (go_at_call 69; refine (verbs_any w).mono ?_; unfold verbsV; rintro e w1 ⟨rfl, hb1⟩)
  go_ret
  exact ⟨rfl, hb1⟩

set_option maxRecDepth 100000 in
set_option maxHeartbeats 4000000 in
theorem verb_8 (w : World) : Calls Tryd.prog 48 #[.int .i64 8] w fun e w' => e = .returned (.string ⟨#[115, 104, 117, 116]⟩) ∧ Below w.heap.size w w' := by
  have hi : ∀ W, (Instr.index 120 verbsV (.int .i64 8)).run Tryd.prog W = .ok (.string ⟨#[115, 104, 117, 116]⟩) W := fun W => idx9 8 _ _ W rfl (by decide)
  unfold verbsV at hi
  go_enter Tryd.func48, Tryd.ntmps48
  go_wp2_with (go_at_call 69; refine (verbs_any w).mono ?_; unfold verbsV; rintro e w1 ⟨rfl, hb1⟩)
  go_ret
  exact ⟨rfl, hb1⟩

set_option maxRecDepth 100000 in
set_option maxHeartbeats 4000000 in
theorem verb_lo (k : Int) (h : k < 1) (w : World) : Calls Tryd.prog 48 #[.int .i64 k] w fun e w' => e = .returned (.string ⟨#[]⟩) ∧ Below w.heap.size w w' := by
  go_enter Tryd.func48, Tryd.ntmps48
  go_wp2
  go_ret
  exact ⟨rfl, Below.refl _ _⟩

set_option maxRecDepth 100000 in
set_option maxHeartbeats 4000000 in
theorem verb_hi (k : Int) (h : ¬ k < 1) (h8 : 8 < k) (w : World) : Calls Tryd.prog 48 #[.int .i64 k] w fun e w' => e = .returned (.string ⟨#[]⟩) ∧ Below w.heap.size w w' := by
  go_enter Tryd.func48, Tryd.ntmps48
  go_wp2
  go_ret
  exact ⟨rfl, Below.refl _ _⟩

theorem verb_any (k : Int) (w : World) : Calls Tryd.prog 48 #[.int .i64 k] w fun e w' => e = .returned (.string (verbB k)) ∧ Below w.heap.size w w' := by
  by_cases h0 : k < 1
  · rw [show verbB k = ⟨#[]⟩ by unfold verbB; repeat (rw [if_neg (by omega)])]
    exact verb_lo k h0 w
  by_cases h9 : 8 < k
  · rw [show verbB k = ⟨#[]⟩ by unfold verbB; repeat (rw [if_neg (by omega)])]
    exact verb_hi k h0 h9 w
  have : k = 1 ∨ k = 2 ∨ k = 3 ∨ k = 4 ∨ k = 5 ∨ k = 6 ∨ k = 7 ∨ k = 8 := by omega
  rcases this with rfl | rfl | rfl | rfl | rfl | rfl | rfl | rfl
  · exact verb_1 w
  · exact verb_2 w
  · exact verb_3 w
  · exact verb_4 w
  · exact verb_5 w
  · exact verb_6 w
  · exact verb_7 w
  · exact verb_8 w

set_option maxRecDepth 100000 in
set_option maxHeartbeats 4000000 in
theorem rverb_1 (w : World) : Calls Tryd.prog 55 #[.int .i64 1] w fun e w' => e = .returned (.string ⟨#[105, 110, 103, 101, 115, 116]⟩) ∧ Below w.heap.size w w' := by
  go_enter Tryd.func55, Tryd.ntmps55
  go_wp2
  go_ret
  exact ⟨rfl, balloc (Below.refl _ _) _⟩

set_option maxRecDepth 100000 in
set_option maxHeartbeats 4000000 in
theorem rverb_2 (w : World) : Calls Tryd.prog 55 #[.int .i64 2] w fun e w' => e = .returned (.string ⟨#[116, 114, 105, 109]⟩) ∧ Below w.heap.size w w' := by
  go_enter Tryd.func55, Tryd.ntmps55
  go_wp2
  go_ret
  exact ⟨rfl, balloc (Below.refl _ _) _⟩

set_option maxRecDepth 100000 in
set_option maxHeartbeats 4000000 in
theorem rverb_3 (w : World) : Calls Tryd.prog 55 #[.int .i64 3] w fun e w' => e = .returned (.string ⟨#[115, 110, 97, 112]⟩) ∧ Below w.heap.size w w' := by
  go_enter Tryd.func55, Tryd.ntmps55
  go_wp2
  go_ret
  exact ⟨rfl, balloc (Below.refl _ _) _⟩

set_option maxRecDepth 100000 in
set_option maxHeartbeats 4000000 in
theorem rverb_4 (w : World) : Calls Tryd.prog 55 #[.int .i64 4] w fun e w' => e = .returned (.string ⟨#[102, 114, 101, 101]⟩) ∧ Below w.heap.size w w' := by
  go_enter Tryd.func55, Tryd.ntmps55
  go_wp2
  go_ret
  exact ⟨rfl, balloc (Below.refl _ _) _⟩

set_option maxRecDepth 100000 in
set_option maxHeartbeats 4000000 in
theorem rverb_5 (w : World) : Calls Tryd.prog 55 #[.int .i64 5] w fun e w' => e = .returned (.string ⟨#[108, 111, 111, 107]⟩) ∧ Below w.heap.size w w' := by
  go_enter Tryd.func55, Tryd.ntmps55
  go_wp2
  go_ret
  exact ⟨rfl, balloc (Below.refl _ _) _⟩

set_option maxRecDepth 100000 in
set_option maxHeartbeats 4000000 in
theorem rverb_6 (w : World) : Calls Tryd.prog 55 #[.int .i64 6] w fun e w' => e = .returned (.string ⟨#[115, 101, 116]⟩) ∧ Below w.heap.size w w' := by
  go_enter Tryd.func55, Tryd.ntmps55
  go_wp2
  go_ret
  exact ⟨rfl, balloc (Below.refl _ _) _⟩

set_option maxRecDepth 100000 in
set_option maxHeartbeats 4000000 in
theorem rverb_7 (w : World) : Calls Tryd.prog 55 #[.int .i64 7] w fun e w' => e = .returned (.string ⟨#[114, 101, 97, 100]⟩) ∧ Below w.heap.size w w' := by
  go_enter Tryd.func55, Tryd.ntmps55
  go_wp2
  go_ret
  exact ⟨rfl, balloc (Below.refl _ _) _⟩

set_option maxRecDepth 100000 in
set_option maxHeartbeats 4000000 in
theorem rverb_8 (w : World) : Calls Tryd.prog 55 #[.int .i64 8] w fun e w' => e = .returned (.string ⟨#[115, 104, 117, 116]⟩) ∧ Below w.heap.size w w' := by
  go_enter Tryd.func55, Tryd.ntmps55
  go_wp2
  go_ret
  exact ⟨rfl, balloc (Below.refl _ _) _⟩

set_option maxRecDepth 100000 in
set_option maxHeartbeats 4000000 in
theorem rverb_lo (k : Int) (h : k < 1) (w : World) : Calls Tryd.prog 55 #[.int .i64 k] w fun e w' => e = .returned (.string ⟨#[]⟩) ∧ Below w.heap.size w w' := by
  go_enter Tryd.func55, Tryd.ntmps55
  go_wp2
  go_ret
  exact ⟨rfl, balloc (Below.refl _ _) _⟩

set_option maxRecDepth 100000 in
set_option maxHeartbeats 4000000 in
theorem rverb_hi (k : Int) (h : ¬ k < 1) (h8 : 8 < k) (w : World) : Calls Tryd.prog 55 #[.int .i64 k] w fun e w' => e = .returned (.string ⟨#[]⟩) ∧ Below w.heap.size w w' := by
  go_enter Tryd.func55, Tryd.ntmps55
  go_wp2
  go_ret
  exact ⟨rfl, balloc (Below.refl _ _) _⟩

theorem rverb_any (k : Int) (w : World) : Calls Tryd.prog 55 #[.int .i64 k] w fun e w' => e = .returned (.string (verbB k)) ∧ Below w.heap.size w w' := by
  by_cases h0 : k < 1
  · rw [show verbB k = ⟨#[]⟩ by unfold verbB; repeat (rw [if_neg (by omega)])]
    exact rverb_lo k h0 w
  by_cases h9 : 8 < k
  · rw [show verbB k = ⟨#[]⟩ by unfold verbB; repeat (rw [if_neg (by omega)])]
    exact rverb_hi k h0 h9 w
  have : k = 1 ∨ k = 2 ∨ k = 3 ∨ k = 4 ∨ k = 5 ∨ k = 6 ∨ k = 7 ∨ k = 8 := by omega
  rcases this with rfl | rfl | rfl | rfl | rfl | rfl | rfl | rfl
  · exact rverb_1 w
  · exact rverb_2 w
  · exact rverb_3 w
  · exact rverb_4 w
  · exact rverb_5 w
  · exact rverb_6 w
  · exact rverb_7 w
  · exact rverb_8 w

set_option maxRecDepth 100000 in
set_option maxHeartbeats 4000000 in
theorem bare_1 (id : ByteArray) (tick val handle mn mx tg tol win hold : Int) (w : World) :
    Calls Tryd.prog 24 #[callV ⟨1, id, tick, val, handle, ⟨mn, mx, tg, tol, win, hold⟩⟩] w fun e w' => e = .returned (.agg #[.int .i64 1, .string id, .int .i64 tick, .int .i64 val, .int .i64 0, .int .i64 0, .int .i64 0, .int .i64 0, .int .i64 0, .int .i64 0, .int .i64 0]) ∧ Below w.heap.size w w' := by
  unfold callV
  go_enter Tryd.func24, Tryd.ntmps24
  go_wp2
  go_region
  all_goals (try go_wp2)
  all_goals
    refine bodyPost_ret (v := .agg #[.int .i64 1, .string id, .int .i64 tick, .int .i64 val, .int .i64 0, .int .i64 0, .int .i64 0, .int .i64 0, .int .i64 0, .int .i64 0, .int .i64 0]) (by simp [results, Tryd.results24, go_sem]) rfl ⟨rfl, ?_⟩
    repeat (first | exact Below.refl _ _ | with_reducible refine balloc ?_ _ | with_reducible refine Below.setCell ?_ (by simp) _ | with_reducible refine Below.drew ?_ | with_reducible refine below_drewN ?_ _)

set_option maxRecDepth 100000 in
set_option maxHeartbeats 4000000 in
theorem bare_2 (id : ByteArray) (tick val handle mn mx tg tol win hold : Int) (w : World) :
    Calls Tryd.prog 24 #[callV ⟨2, id, tick, val, handle, ⟨mn, mx, tg, tol, win, hold⟩⟩] w fun e w' => e = .returned (.agg #[.int .i64 2, .string ⟨#[]⟩, .int .i64 tick, .int .i64 0, .int .i64 0, .int .i64 0, .int .i64 0, .int .i64 0, .int .i64 0, .int .i64 0, .int .i64 0]) ∧ Below w.heap.size w w' := by
  unfold callV
  go_enter Tryd.func24, Tryd.ntmps24
  go_wp2

  all_goals (try go_wp2)
  all_goals
    refine bodyPost_ret (v := .agg #[.int .i64 2, .string ⟨#[]⟩, .int .i64 tick, .int .i64 0, .int .i64 0, .int .i64 0, .int .i64 0, .int .i64 0, .int .i64 0, .int .i64 0, .int .i64 0]) (by simp [results, Tryd.results24, go_sem]) rfl ⟨rfl, ?_⟩
    repeat (first | exact Below.refl _ _ | with_reducible refine balloc ?_ _ | with_reducible refine Below.setCell ?_ (by simp) _ | with_reducible refine Below.drew ?_ | with_reducible refine below_drewN ?_ _)

set_option maxRecDepth 100000 in
set_option maxHeartbeats 4000000 in
theorem bare_4 (id : ByteArray) (tick val handle mn mx tg tol win hold : Int) (w : World) :
    Calls Tryd.prog 24 #[callV ⟨4, id, tick, val, handle, ⟨mn, mx, tg, tol, win, hold⟩⟩] w fun e w' => e = .returned (.agg #[.int .i64 4, .string ⟨#[]⟩, .int .i64 0, .int .i64 0, .int .i64 handle, .int .i64 0, .int .i64 0, .int .i64 0, .int .i64 0, .int .i64 0, .int .i64 0]) ∧ Below w.heap.size w w' := by
  unfold callV
  go_enter Tryd.func24, Tryd.ntmps24
  go_wp2

  all_goals (try go_wp2)
  all_goals
    refine bodyPost_ret (v := .agg #[.int .i64 4, .string ⟨#[]⟩, .int .i64 0, .int .i64 0, .int .i64 handle, .int .i64 0, .int .i64 0, .int .i64 0, .int .i64 0, .int .i64 0, .int .i64 0]) (by simp [results, Tryd.results24, go_sem]) rfl ⟨rfl, ?_⟩
    repeat (first | exact Below.refl _ _ | with_reducible refine balloc ?_ _ | with_reducible refine Below.setCell ?_ (by simp) _ | with_reducible refine Below.drew ?_ | with_reducible refine below_drewN ?_ _)

set_option maxRecDepth 100000 in
set_option maxHeartbeats 4000000 in
theorem bare_5 (id : ByteArray) (tick val handle mn mx tg tol win hold : Int) (w : World) :
    Calls Tryd.prog 24 #[callV ⟨5, id, tick, val, handle, ⟨mn, mx, tg, tol, win, hold⟩⟩] w fun e w' => e = .returned (.agg #[.int .i64 5, .string id, .int .i64 tick, .int .i64 val, .int .i64 handle, .int .i64 0, .int .i64 0, .int .i64 0, .int .i64 0, .int .i64 0, .int .i64 0]) ∧ Below w.heap.size w w' := by
  unfold callV
  go_enter Tryd.func24, Tryd.ntmps24
  go_wp2
  go_region
  all_goals (try go_wp2)
  all_goals
    refine bodyPost_ret (v := .agg #[.int .i64 5, .string id, .int .i64 tick, .int .i64 val, .int .i64 handle, .int .i64 0, .int .i64 0, .int .i64 0, .int .i64 0, .int .i64 0, .int .i64 0]) (by simp [results, Tryd.results24, go_sem]) rfl ⟨rfl, ?_⟩
    repeat (first | exact Below.refl _ _ | with_reducible refine balloc ?_ _ | with_reducible refine Below.setCell ?_ (by simp) _ | with_reducible refine Below.drew ?_ | with_reducible refine below_drewN ?_ _)

set_option maxRecDepth 100000 in
set_option maxHeartbeats 4000000 in
theorem bare_6 (id : ByteArray) (tick val handle mn mx tg tol win hold : Int) (w : World) :
    Calls Tryd.prog 24 #[callV ⟨6, id, tick, val, handle, ⟨mn, mx, tg, tol, win, hold⟩⟩] w fun e w' => e = .returned (.agg #[.int .i64 6, .string id, .int .i64 0, .int .i64 0, .int .i64 0, .int .i64 mn, .int .i64 mx, .int .i64 tg, .int .i64 tol, .int .i64 win, .int .i64 hold]) ∧ Below w.heap.size w w' := by
  unfold callV
  go_enter Tryd.func24, Tryd.ntmps24
  go_wp2

  all_goals (try go_wp2)
  all_goals
    refine bodyPost_ret (v := .agg #[.int .i64 6, .string id, .int .i64 0, .int .i64 0, .int .i64 0, .int .i64 mn, .int .i64 mx, .int .i64 tg, .int .i64 tol, .int .i64 win, .int .i64 hold]) (by simp [results, Tryd.results24, go_sem]) rfl ⟨rfl, ?_⟩
    repeat (first | exact Below.refl _ _ | with_reducible refine balloc ?_ _ | with_reducible refine Below.setCell ?_ (by simp) _ | with_reducible refine Below.drew ?_ | with_reducible refine below_drewN ?_ _)

set_option maxRecDepth 100000 in
set_option maxHeartbeats 4000000 in
theorem bare_7 (id : ByteArray) (tick val handle mn mx tg tol win hold : Int) (w : World) :
    Calls Tryd.prog 24 #[callV ⟨7, id, tick, val, handle, ⟨mn, mx, tg, tol, win, hold⟩⟩] w fun e w' => e = .returned (.agg #[.int .i64 7, .string id, .int .i64 0, .int .i64 0, .int .i64 0, .int .i64 0, .int .i64 0, .int .i64 0, .int .i64 0, .int .i64 0, .int .i64 0]) ∧ Below w.heap.size w w' := by
  unfold callV
  go_enter Tryd.func24, Tryd.ntmps24
  go_wp2

  all_goals (try go_wp2)
  all_goals
    refine bodyPost_ret (v := .agg #[.int .i64 7, .string id, .int .i64 0, .int .i64 0, .int .i64 0, .int .i64 0, .int .i64 0, .int .i64 0, .int .i64 0, .int .i64 0, .int .i64 0]) (by simp [results, Tryd.results24, go_sem]) rfl ⟨rfl, ?_⟩
    repeat (first | exact Below.refl _ _ | with_reducible refine balloc ?_ _ | with_reducible refine Below.setCell ?_ (by simp) _ | with_reducible refine Below.drew ?_ | with_reducible refine below_drewN ?_ _)

set_option maxRecDepth 100000 in
set_option maxHeartbeats 4000000 in
theorem bare_0 (k : Int) (h1 : k ≠ 1) (h2 : k ≠ 2) (h4 : k ≠ 4) (h5 : k ≠ 5) (h6 : k ≠ 6) (h7 : k ≠ 7) (id : ByteArray) (tick val handle mn mx tg tol win hold : Int) (w : World) :
    Calls Tryd.prog 24 #[callV ⟨k, id, tick, val, handle, ⟨mn, mx, tg, tol, win, hold⟩⟩] w fun e w' => e = .returned (.agg #[.int .i64 k, .string ⟨#[]⟩, .int .i64 0, .int .i64 0, .int .i64 0, .int .i64 0, .int .i64 0, .int .i64 0, .int .i64 0, .int .i64 0, .int .i64 0]) ∧ Below w.heap.size w w' := by
  have q1 : (k == 1) = false := by simp [h1]
  have q2 : (k == 2) = false := by simp [h2]
  have q4 : (k == 4) = false := by simp [h4]
  have q5 : (k == 5) = false := by simp [h5]
  have q6 : (k == 6) = false := by simp [h6]
  have q7 : (k == 7) = false := by simp [h7]
  clear h1 h2 h4 h5 h6 h7
  unfold callV
  go_enter Tryd.func24, Tryd.ntmps24
  go_wp2

  all_goals (try go_wp2)
  all_goals
    refine bodyPost_ret (v := .agg #[.int .i64 k, .string ⟨#[]⟩, .int .i64 0, .int .i64 0, .int .i64 0, .int .i64 0, .int .i64 0, .int .i64 0, .int .i64 0, .int .i64 0, .int .i64 0]) (by simp [results, Tryd.results24, go_sem]) rfl ⟨rfl, ?_⟩
    repeat (first | exact Below.refl _ _ | with_reducible refine balloc ?_ _ | with_reducible refine Below.setCell ?_ (by simp) _ | with_reducible refine Below.drew ?_ | with_reducible refine below_drewN ?_ _)

theorem bare_any (c : CallD) (w : World) : Calls Tryd.prog 24 #[callV c] w fun e w' => e = .returned (callV (bareC c)) ∧ Below w.heap.size w w' := by
  obtain ⟨k, id, tick, val, handle, mn, mx, tg, tol, win, hold⟩ := c
  unfold bareC
  dsimp only
  by_cases h1 : k = 1
  · subst h1; exact bare_1 id tick val handle mn mx tg tol win hold w
  by_cases h2 : k = 2
  · subst h2; exact bare_2 id tick val handle mn mx tg tol win hold w
  by_cases h4 : k = 4
  · subst h4; exact bare_4 id tick val handle mn mx tg tol win hold w
  by_cases h5 : k = 5
  · subst h5; exact bare_5 id tick val handle mn mx tg tol win hold w
  by_cases h6 : k = 6
  · subst h6; exact bare_6 id tick val handle mn mx tg tol win hold w
  by_cases h7 : k = 7
  · subst h7; exact bare_7 id tick val handle mn mx tg tol win hold w
  rw [if_neg h1, if_neg h2, if_neg h4, if_neg h5, if_neg h6, if_neg h7]
  exact bare_0 k h1 h2 h4 h5 h6 h7 id tick val handle mn mx tg tol win hold w

set_option maxRecDepth 100000 in
set_option maxHeartbeats 4000000 in
theorem rbare_1 (id : ByteArray) (tick val handle mn mx tg tol win hold : Int) (w : World) :
    Calls Tryd.prog 11 #[callV ⟨1, id, tick, val, handle, ⟨mn, mx, tg, tol, win, hold⟩⟩] w fun e w' => e = .returned (.agg #[.int .i64 1, .string id, .int .i64 tick, .int .i64 val, .int .i64 0, .int .i64 0, .int .i64 0, .int .i64 0, .int .i64 0, .int .i64 0, .int .i64 0]) ∧ Below w.heap.size w w' := by
  unfold callV
  go_enter Tryd.func11, Tryd.ntmps11
  go_wp2

  all_goals (try go_wp2)
  all_goals
    refine bodyPost_ret (v := .agg #[.int .i64 1, .string id, .int .i64 tick, .int .i64 val, .int .i64 0, .int .i64 0, .int .i64 0, .int .i64 0, .int .i64 0, .int .i64 0, .int .i64 0]) (by simp [results, Tryd.results11, go_sem]) rfl ⟨rfl, ?_⟩
    repeat (first | exact Below.refl _ _ | with_reducible refine balloc ?_ _ | with_reducible refine Below.setCell ?_ (by simp) _ | with_reducible refine Below.drew ?_ | with_reducible refine below_drewN ?_ _)

set_option maxRecDepth 100000 in
set_option maxHeartbeats 4000000 in
theorem rbare_2 (id : ByteArray) (tick val handle mn mx tg tol win hold : Int) (w : World) :
    Calls Tryd.prog 11 #[callV ⟨2, id, tick, val, handle, ⟨mn, mx, tg, tol, win, hold⟩⟩] w fun e w' => e = .returned (.agg #[.int .i64 2, .string ⟨#[]⟩, .int .i64 tick, .int .i64 0, .int .i64 0, .int .i64 0, .int .i64 0, .int .i64 0, .int .i64 0, .int .i64 0, .int .i64 0]) ∧ Below w.heap.size w w' := by
  unfold callV
  go_enter Tryd.func11, Tryd.ntmps11
  go_wp2

  all_goals (try go_wp2)
  all_goals
    refine bodyPost_ret (v := .agg #[.int .i64 2, .string ⟨#[]⟩, .int .i64 tick, .int .i64 0, .int .i64 0, .int .i64 0, .int .i64 0, .int .i64 0, .int .i64 0, .int .i64 0, .int .i64 0]) (by simp [results, Tryd.results11, go_sem]) rfl ⟨rfl, ?_⟩
    repeat (first | exact Below.refl _ _ | with_reducible refine balloc ?_ _ | with_reducible refine Below.setCell ?_ (by simp) _ | with_reducible refine Below.drew ?_ | with_reducible refine below_drewN ?_ _)

set_option maxRecDepth 100000 in
set_option maxHeartbeats 4000000 in
theorem rbare_4 (id : ByteArray) (tick val handle mn mx tg tol win hold : Int) (w : World) :
    Calls Tryd.prog 11 #[callV ⟨4, id, tick, val, handle, ⟨mn, mx, tg, tol, win, hold⟩⟩] w fun e w' => e = .returned (.agg #[.int .i64 4, .string ⟨#[]⟩, .int .i64 0, .int .i64 0, .int .i64 handle, .int .i64 0, .int .i64 0, .int .i64 0, .int .i64 0, .int .i64 0, .int .i64 0]) ∧ Below w.heap.size w w' := by
  unfold callV
  go_enter Tryd.func11, Tryd.ntmps11
  go_wp2

  all_goals (try go_wp2)
  all_goals
    refine bodyPost_ret (v := .agg #[.int .i64 4, .string ⟨#[]⟩, .int .i64 0, .int .i64 0, .int .i64 handle, .int .i64 0, .int .i64 0, .int .i64 0, .int .i64 0, .int .i64 0, .int .i64 0]) (by simp [results, Tryd.results11, go_sem]) rfl ⟨rfl, ?_⟩
    repeat (first | exact Below.refl _ _ | with_reducible refine balloc ?_ _ | with_reducible refine Below.setCell ?_ (by simp) _ | with_reducible refine Below.drew ?_ | with_reducible refine below_drewN ?_ _)

set_option maxRecDepth 100000 in
set_option maxHeartbeats 4000000 in
theorem rbare_5 (id : ByteArray) (tick val handle mn mx tg tol win hold : Int) (w : World) :
    Calls Tryd.prog 11 #[callV ⟨5, id, tick, val, handle, ⟨mn, mx, tg, tol, win, hold⟩⟩] w fun e w' => e = .returned (.agg #[.int .i64 5, .string id, .int .i64 tick, .int .i64 val, .int .i64 handle, .int .i64 0, .int .i64 0, .int .i64 0, .int .i64 0, .int .i64 0, .int .i64 0]) ∧ Below w.heap.size w w' := by
  unfold callV
  go_enter Tryd.func11, Tryd.ntmps11
  go_wp2

  all_goals (try go_wp2)
  all_goals
    refine bodyPost_ret (v := .agg #[.int .i64 5, .string id, .int .i64 tick, .int .i64 val, .int .i64 handle, .int .i64 0, .int .i64 0, .int .i64 0, .int .i64 0, .int .i64 0, .int .i64 0]) (by simp [results, Tryd.results11, go_sem]) rfl ⟨rfl, ?_⟩
    repeat (first | exact Below.refl _ _ | with_reducible refine balloc ?_ _ | with_reducible refine Below.setCell ?_ (by simp) _ | with_reducible refine Below.drew ?_ | with_reducible refine below_drewN ?_ _)

set_option maxRecDepth 100000 in
set_option maxHeartbeats 4000000 in
theorem rbare_6 (id : ByteArray) (tick val handle mn mx tg tol win hold : Int) (w : World) :
    Calls Tryd.prog 11 #[callV ⟨6, id, tick, val, handle, ⟨mn, mx, tg, tol, win, hold⟩⟩] w fun e w' => e = .returned (.agg #[.int .i64 6, .string id, .int .i64 0, .int .i64 0, .int .i64 0, .int .i64 mn, .int .i64 mx, .int .i64 tg, .int .i64 tol, .int .i64 win, .int .i64 hold]) ∧ Below w.heap.size w w' := by
  unfold callV
  go_enter Tryd.func11, Tryd.ntmps11
  go_wp2

  all_goals (try go_wp2)
  all_goals
    refine bodyPost_ret (v := .agg #[.int .i64 6, .string id, .int .i64 0, .int .i64 0, .int .i64 0, .int .i64 mn, .int .i64 mx, .int .i64 tg, .int .i64 tol, .int .i64 win, .int .i64 hold]) (by simp [results, Tryd.results11, go_sem]) rfl ⟨rfl, ?_⟩
    repeat (first | exact Below.refl _ _ | with_reducible refine balloc ?_ _ | with_reducible refine Below.setCell ?_ (by simp) _ | with_reducible refine Below.drew ?_ | with_reducible refine below_drewN ?_ _)

set_option maxRecDepth 100000 in
set_option maxHeartbeats 4000000 in
theorem rbare_7 (id : ByteArray) (tick val handle mn mx tg tol win hold : Int) (w : World) :
    Calls Tryd.prog 11 #[callV ⟨7, id, tick, val, handle, ⟨mn, mx, tg, tol, win, hold⟩⟩] w fun e w' => e = .returned (.agg #[.int .i64 7, .string id, .int .i64 0, .int .i64 0, .int .i64 0, .int .i64 0, .int .i64 0, .int .i64 0, .int .i64 0, .int .i64 0, .int .i64 0]) ∧ Below w.heap.size w w' := by
  unfold callV
  go_enter Tryd.func11, Tryd.ntmps11
  go_wp2

  all_goals (try go_wp2)
  all_goals
    refine bodyPost_ret (v := .agg #[.int .i64 7, .string id, .int .i64 0, .int .i64 0, .int .i64 0, .int .i64 0, .int .i64 0, .int .i64 0, .int .i64 0, .int .i64 0, .int .i64 0]) (by simp [results, Tryd.results11, go_sem]) rfl ⟨rfl, ?_⟩
    repeat (first | exact Below.refl _ _ | with_reducible refine balloc ?_ _ | with_reducible refine Below.setCell ?_ (by simp) _ | with_reducible refine Below.drew ?_ | with_reducible refine below_drewN ?_ _)

set_option maxRecDepth 100000 in
set_option maxHeartbeats 4000000 in
theorem rbare_0 (k : Int) (h1 : k ≠ 1) (h2 : k ≠ 2) (h4 : k ≠ 4) (h5 : k ≠ 5) (h6 : k ≠ 6) (h7 : k ≠ 7) (id : ByteArray) (tick val handle mn mx tg tol win hold : Int) (w : World) :
    Calls Tryd.prog 11 #[callV ⟨k, id, tick, val, handle, ⟨mn, mx, tg, tol, win, hold⟩⟩] w fun e w' => e = .returned (.agg #[.int .i64 k, .string ⟨#[]⟩, .int .i64 0, .int .i64 0, .int .i64 0, .int .i64 0, .int .i64 0, .int .i64 0, .int .i64 0, .int .i64 0, .int .i64 0]) ∧ Below w.heap.size w w' := by
  have q1 : (k == 1) = false := by simp [h1]
  have q2 : (k == 2) = false := by simp [h2]
  have q4 : (k == 4) = false := by simp [h4]
  have q5 : (k == 5) = false := by simp [h5]
  have q6 : (k == 6) = false := by simp [h6]
  have q7 : (k == 7) = false := by simp [h7]
  clear h1 h2 h4 h5 h6 h7
  unfold callV
  go_enter Tryd.func11, Tryd.ntmps11
  go_wp2

  all_goals (try go_wp2)
  all_goals
    refine bodyPost_ret (v := .agg #[.int .i64 k, .string ⟨#[]⟩, .int .i64 0, .int .i64 0, .int .i64 0, .int .i64 0, .int .i64 0, .int .i64 0, .int .i64 0, .int .i64 0, .int .i64 0]) (by simp [results, Tryd.results11, go_sem]) rfl ⟨rfl, ?_⟩
    repeat (first | exact Below.refl _ _ | with_reducible refine balloc ?_ _ | with_reducible refine Below.setCell ?_ (by simp) _ | with_reducible refine Below.drew ?_ | with_reducible refine below_drewN ?_ _)

theorem rbare_any (c : CallD) (w : World) : Calls Tryd.prog 11 #[callV c] w fun e w' => e = .returned (callV (bareC c)) ∧ Below w.heap.size w w' := by
  obtain ⟨k, id, tick, val, handle, mn, mx, tg, tol, win, hold⟩ := c
  unfold bareC
  dsimp only
  by_cases h1 : k = 1
  · subst h1; exact rbare_1 id tick val handle mn mx tg tol win hold w
  by_cases h2 : k = 2
  · subst h2; exact rbare_2 id tick val handle mn mx tg tol win hold w
  by_cases h4 : k = 4
  · subst h4; exact rbare_4 id tick val handle mn mx tg tol win hold w
  by_cases h5 : k = 5
  · subst h5; exact rbare_5 id tick val handle mn mx tg tol win hold w
  by_cases h6 : k = 6
  · subst h6; exact rbare_6 id tick val handle mn mx tg tol win hold w
  by_cases h7 : k = 7
  · subst h7; exact rbare_7 id tick val handle mn mx tg tol win hold w
  rw [if_neg h1, if_neg h2, if_neg h4, if_neg h5, if_neg h6, if_neg h7]
  exact rbare_0 k h1 h2 h4 h5 h6 h7 id tick val handle mn mx tg tol win hold w
end Go.Proofs.YtfnabpmdjfejbaaDoor
