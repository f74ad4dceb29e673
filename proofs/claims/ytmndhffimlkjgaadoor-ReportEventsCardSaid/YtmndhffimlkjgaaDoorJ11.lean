/- line.Verb, Bare; flywheelref41.Verb, Bare: kind by kind. -/
import Derived.Test.YtmndhffimlkjgaaDoorJ10
namespace Go.Proofs.YtmndhffimlkjgaaDoor

section
set_option linter.unusedSimpArgs false
set_option linter.unusedVariables false
open Go.RowKit Go.Lib

def bareC (c : CallD) : CallD :=
  if c.kind = 1 then ⟨1, c.id, c.tick, c.val, 0, polZ⟩ else if c.kind = 2 then ⟨2, ⟨#[]⟩, c.tick, 0, 0, polZ⟩ else if c.kind = 4 then ⟨4, ⟨#[]⟩, 0, 0, c.handle, polZ⟩
  else if c.kind = 5 then ⟨5, c.id, c.tick, c.val, c.handle, polZ⟩ else if c.kind = 6 then ⟨6, c.id, 0, 0, 0, c.pol⟩ else if c.kind = 7 then ⟨7, c.id, 0, 0, 0, polZ⟩ else ⟨c.kind, ⟨#[]⟩, 0, 0, 0, polZ⟩
theorem idx9 (i : Nat) (cs : Array Value) (v : Value) (w : World) (h : cs[i]? = some v) (h1 : i < 9) :
    (Instr.index 105 (.agg cs) (.int .i64 (i : Nat))).run Tryd.prog w = .ok v w := by
  have h2 : (i : Int) < 9 := by omega
  simp [Instr.index, run_underlying Tryd.underlying105, asIntOf, go_sem, h1, h2, h]
theorem idx6 (i : Nat) (cs : Array Value) (v : Value) (w : World) (h : cs[i]? = some v) (h1 : i < 6) :
    (Instr.index 111 (.agg cs) (.int .i64 (i : Nat))).run Tryd.prog w = .ok v w := by
  have h2 : (i : Int) < 6 := by omega
  simp [Instr.index, run_underlying Tryd.underlying111, asIntOf, go_sem, h1, h2, h]
theorem idxn (i : Nat) (cs : Array Value) (v : Value) (w : World) (h : cs[i]? = some v) (h1 : i < 6) :
    (Instr.index 108 (.agg cs) (.int .i64 (i : Nat))).run Tryd.prog w = .ok v w := by
  have h2 : (i : Int) < 6 := by omega
  simp [Instr.index, run_underlying Tryd.underlying108, asIntOf, go_sem, h1, h2, h]

set_option maxRecDepth 100000 in
set_option maxHeartbeats 4000000 in
theorem verb_1 (w : World) : Calls Tryd.prog 44 #[.int .i64 1] w fun e w' => e = .returned (.string ⟨#[105, 110, 103, 101, 115, 116]⟩) ∧ Below w.heap.size w w' := by
  have hi : ∀ W, (Instr.index 105 verbsV (.int .i64 1)).run Tryd.prog W = .ok (.string ⟨#[105, 110, 103, 101, 115, 116]⟩) W := fun W => idx9 1 _ _ W rfl (by decide)
  unfold verbsV at hi
  go_enter Tryd.func44, Tryd.ntmps44
  go_wp2_with (go_at_call 63; refine (verbs_any w).mono ?_; unfold verbsV; rintro e w1 ⟨rfl, hb1⟩)
  go_ret
  exact ⟨rfl, hb1⟩

set_option maxRecDepth 100000 in
set_option maxHeartbeats 4000000 in
theorem verb_2 (w : World) : Calls Tryd.prog 44 #[.int .i64 2] w fun e w' => e = .returned (.string ⟨#[116, 114, 105, 109]⟩) ∧ Below w.heap.size w w' := by
  have hi : ∀ W, (Instr.index 105 verbsV (.int .i64 2)).run Tryd.prog W = .ok (.string ⟨#[116, 114, 105, 109]⟩) W := fun W => idx9 2 _ _ W rfl (by decide)
  unfold verbsV at hi
  go_enter Tryd.func44, Tryd.ntmps44
  go_wp2_with (go_at_call 63; refine (verbs_any w).mono ?_; unfold verbsV; rintro e w1 ⟨rfl, hb1⟩)
  go_ret
  exact ⟨rfl, hb1⟩

set_option maxRecDepth 100000 in
set_option maxHeartbeats 4000000 in
theorem verb_3 (w : World) : Calls Tryd.prog 44 #[.int .i64 3] w fun e w' => e = .returned (.string ⟨#[115, 110, 97, 112]⟩) ∧ Below w.heap.size w w' := by
  have hi : ∀ W, (Instr.index 105 verbsV (.int .i64 3)).run Tryd.prog W = .ok (.string ⟨#[115, 110, 97, 112]⟩) W := fun W => idx9 3 _ _ W rfl (by decide)
  unfold verbsV at hi
  go_enter Tryd.func44, Tryd.ntmps44
  go_wp2_with (go_at_call 63; refine (verbs_any w).mono ?_; unfold verbsV; rintro e w1 ⟨rfl, hb1⟩)
  go_ret
  exact ⟨rfl, hb1⟩

set_option maxRecDepth 100000 in
set_option maxHeartbeats 4000000 in
theorem verb_4 (w : World) : Calls Tryd.prog 44 #[.int .i64 4] w fun e w' => e = .returned (.string ⟨#[102, 114, 101, 101]⟩) ∧ Below w.heap.size w w' := by
  have hi : ∀ W, (Instr.index 105 verbsV (.int .i64 4)).run Tryd.prog W = .ok (.string ⟨#[102, 114, 101, 101]⟩) W := fun W => idx9 4 _ _ W rfl (by decide)
  unfold verbsV at hi
  go_enter Tryd.func44, Tryd.ntmps44
  go_wp2_with (go_at_call 63; refine (verbs_any w).mono ?_; unfold verbsV; rintro e w1 ⟨rfl, hb1⟩)
  go_ret
  exact ⟨rfl, hb1⟩

set_option maxRecDepth 100000 in
set_option maxHeartbeats 4000000 in
theorem verb_5 (w : World) : Calls Tryd.prog 44 #[.int .i64 5] w fun e w' => e = .returned (.string ⟨#[108, 111, 111, 107]⟩) ∧ Below w.heap.size w w' := by
  have hi : ∀ W, (Instr.index 105 verbsV (.int .i64 5)).run Tryd.prog W = .ok (.string ⟨#[108, 111, 111, 107]⟩) W := fun W => idx9 5 _ _ W rfl (by decide)
  unfold verbsV at hi
  go_enter Tryd.func44, Tryd.ntmps44
  go_wp2_with (go_at_call 63; refine (verbs_any w).mono ?_; unfold verbsV; rintro e w1 ⟨rfl, hb1⟩)
  go_ret
  exact ⟨rfl, hb1⟩

set_option maxRecDepth 100000 in
set_option maxHeartbeats 4000000 in
theorem verb_6 (w : World) : Calls Tryd.prog 44 #[.int .i64 6] w fun e w' => e = .returned (.string ⟨#[115, 101, 116]⟩) ∧ Below w.heap.size w w' := by
  have hi : ∀ W, (Instr.index 105 verbsV (.int .i64 6)).run Tryd.prog W = .ok (.string ⟨#[115, 101, 116]⟩) W := fun W => idx9 6 _ _ W rfl (by decide)
  unfold verbsV at hi
  go_enter Tryd.func44, Tryd.ntmps44
  go_wp2_with (go_at_call 63; refine (verbs_any w).mono ?_; unfold verbsV; rintro e w1 ⟨rfl, hb1⟩)
  go_ret
  exact ⟨rfl, hb1⟩

set_option maxRecDepth 100000 in
set_option maxHeartbeats 4000000 in
theorem verb_7 (w : World) : Calls Tryd.prog 44 #[.int .i64 7] w fun e w' => e = .returned (.string ⟨#[114, 101, 97, 100]⟩) ∧ Below w.heap.size w w' := by
  have hi : ∀ W, (Instr.index 105 verbsV (.int .i64 7)).run Tryd.prog W = .ok (.string ⟨#[114, 101, 97, 100]⟩) W := fun W => idx9 7 _ _ W rfl (by decide)
  unfold verbsV at hi
  go_enter Tryd.func44, Tryd.ntmps44
  go_wp2_with (go_at_call 63; refine (verbs_any w).mono ?_; unfold verbsV; rintro e w1 ⟨rfl, hb1⟩)
  go_ret
  exact ⟨rfl, hb1⟩

set_option maxRecDepth 100000 in
set_option maxHeartbeats 4000000 in
theorem verb_8 (w : World) : Calls Tryd.prog 44 #[.int .i64 8] w fun e w' => e = .returned (.string ⟨#[115, 104, 117, 116]⟩) ∧ Below w.heap.size w w' := by
  have hi : ∀ W, (Instr.index 105 verbsV (.int .i64 8)).run Tryd.prog W = .ok (.string ⟨#[115, 104, 117, 116]⟩) W := fun W => idx9 8 _ _ W rfl (by decide)
  unfold verbsV at hi
  go_enter Tryd.func44, Tryd.ntmps44
  go_wp2_with (go_at_call 63; refine (verbs_any w).mono ?_; unfold verbsV; rintro e w1 ⟨rfl, hb1⟩)
  go_ret
  exact ⟨rfl, hb1⟩

set_option maxRecDepth 100000 in
set_option maxHeartbeats 4000000 in
theorem verb_lo (k : Int) (h : k < 1) (w : World) : Calls Tryd.prog 44 #[.int .i64 k] w fun e w' => e = .returned (.string ⟨#[]⟩) ∧ Below w.heap.size w w' := by
  go_enter Tryd.func44, Tryd.ntmps44
  go_wp2
  go_ret
  exact ⟨rfl, Below.refl _ _⟩

set_option maxRecDepth 100000 in
set_option maxHeartbeats 4000000 in
theorem verb_hi (k : Int) (h : ¬ k < 1) (h8 : 8 < k) (w : World) : Calls Tryd.prog 44 #[.int .i64 k] w fun e w' => e = .returned (.string ⟨#[]⟩) ∧ Below w.heap.size w w' := by
  go_enter Tryd.func44, Tryd.ntmps44
  go_wp2
  go_ret
  exact ⟨rfl, Below.refl _ _⟩

theorem verb_any (k : Int) (w : World) : Calls Tryd.prog 44 #[.int .i64 k] w fun e w' => e = .returned (.string (verbB k)) ∧ Below w.heap.size w w' := by
  by_cases h0 : k < 1
  · rw [show verbB k = ⟨#[]⟩ by unfold verbB; repeat (rw [if_neg (by omega)])]
    exact verb_lo k h0 w
  by_cases h9 : 8 < k
  · rw [show verbB k = ⟨#[]⟩ by unfold verbB; repeat (rw [if_neg (by omega)])]
    exact verb_hi k h0 h9 w
  have : k = 1 ∨ k = 2 ∨ k = 3 ∨ k = 4 ∨ k = 5 ∨ k = 6 ∨ k = 7 ∨ k = 8 := by omega
  rcases this with rfl | rfl | rfl | rfl | rfl | rfl | rfl | rfl
  · exact verb_1 w
  · exact verb_2 w
  · exact verb_3 w
  · exact verb_4 w
  · exact verb_5 w
  · exact verb_6 w
  · exact verb_7 w
  · exact verb_8 w

set_option maxRecDepth 100000 in
set_option maxHeartbeats 4000000 in
theorem rverb_1 (w : World) : Calls Tryd.prog 33 #[.int .i64 1] w fun e w' => e = .returned (.string ⟨#[105, 110, 103, 101, 115, 116]⟩) ∧ Below w.heap.size w w' := by
  go_enter Tryd.func33, Tryd.ntmps33
  go_wp2
  go_ret
  exact ⟨rfl, balloc (Below.refl _ _) _⟩

set_option maxRecDepth 100000 in
set_option maxHeartbeats 4000000 in
theorem rverb_2 (w : World) : Calls Tryd.prog 33 #[.int .i64 2] w fun e w' => e = .returned (.string ⟨#[116, 114, 105, 109]⟩) ∧ Below w.heap.size w w' := by
  go_enter Tryd.func33, Tryd.ntmps33
  go_wp2
  go_ret
  exact ⟨rfl, balloc (Below.refl _ _) _⟩

set_option maxRecDepth 100000 in
set_option maxHeartbeats 4000000 in
theorem rverb_3 (w : World) : Calls Tryd.prog 33 #[.int .i64 3] w fun e w' => e = .returned (.string ⟨#[115, 110, 97, 112]⟩) ∧ Below w.heap.size w w' := by
  go_enter Tryd.func33, Tryd.ntmps33
  go_wp2
  go_ret
  exact ⟨rfl, balloc (Below.refl _ _) _⟩

set_option maxRecDepth 100000 in
set_option maxHeartbeats 4000000 in
theorem rverb_4 (w : World) : Calls Tryd.prog 33 #[.int .i64 4] w fun e w' => e = .returned (.string ⟨#[102, 114, 101, 101]⟩) ∧ Below w.heap.size w w' := by
  go_enter Tryd.func33, Tryd.ntmps33
  go_wp2
  go_ret
  exact ⟨rfl, balloc (Below.refl _ _) _⟩

set_option maxRecDepth 100000 in
set_option maxHeartbeats 4000000 in
theorem rverb_5 (w : World) : Calls Tryd.prog 33 #[.int .i64 5] w fun e w' => e = .returned (.string ⟨#[108, 111, 111, 107]⟩) ∧ Below w.heap.size w w' := by
  go_enter Tryd.func33, Tryd.ntmps33
  go_wp2
  go_ret
  exact ⟨rfl, balloc (Below.refl _ _) _⟩

set_option maxRecDepth 100000 in
set_option maxHeartbeats 4000000 in
theorem rverb_6 (w : World) : Calls Tryd.prog 33 #[.int .i64 6] w fun e w' => e = .returned (.string ⟨#[115, 101, 116]⟩) ∧ Below w.heap.size w w' := by
  go_enter Tryd.func33, Tryd.ntmps33
  go_wp2
  go_ret
  exact ⟨rfl, balloc (Below.refl _ _) _⟩

set_option maxRecDepth 100000 in
set_option maxHeartbeats 4000000 in
theorem rverb_7 (w : World) : Calls Tryd.prog 33 #[.int .i64 7] w fun e w' => e = .returned (.string ⟨#[114, 101, 97, 100]⟩) ∧ Below w.heap.size w w' := by
  go_enter Tryd.func33, Tryd.ntmps33
  go_wp2
  go_ret
  exact ⟨rfl, balloc (Below.refl _ _) _⟩

set_option maxRecDepth 100000 in
set_option maxHeartbeats 4000000 in
theorem rverb_8 (w : World) : Calls Tryd.prog 33 #[.int .i64 8] w fun e w' => e = .returned (.string ⟨#[115, 104, 117, 116]⟩) ∧ Below w.heap.size w w' := by
  go_enter Tryd.func33, Tryd.ntmps33
  go_wp2
  go_ret
  exact ⟨rfl, balloc (Below.refl _ _) _⟩

set_option maxRecDepth 100000 in
set_option maxHeartbeats 4000000 in
theorem rverb_lo (k : Int) (h : k < 1) (w : World) : Calls Tryd.prog 33 #[.int .i64 k] w fun e w' => e = .returned (.string ⟨#[]⟩) ∧ Below w.heap.size w w' := by
  go_enter Tryd.func33, Tryd.ntmps33
  go_wp2
  go_ret
  exact ⟨rfl, balloc (Below.refl _ _) _⟩

set_option maxRecDepth 100000 in
set_option maxHeartbeats 4000000 in
theorem rverb_hi (k : Int) (h : ¬ k < 1) (h8 : 8 < k) (w : World) : Calls Tryd.prog 33 #[.int .i64 k] w fun e w' => e = .returned (.string ⟨#[]⟩) ∧ Below w.heap.size w w' := by
  go_enter Tryd.func33, Tryd.ntmps33
  go_wp2
  go_ret
  exact ⟨rfl, balloc (Below.refl _ _) _⟩

theorem rverb_any (k : Int) (w : World) : Calls Tryd.prog 33 #[.int .i64 k] w fun e w' => e = .returned (.string (verbB k)) ∧ Below w.heap.size w w' := by
  by_cases h0 : k < 1
  · rw [show verbB k = ⟨#[]⟩ by unfold verbB; repeat (rw [if_neg (by omega)])]
    exact rverb_lo k h0 w
  by_cases h9 : 8 < k
  · rw [show verbB k = ⟨#[]⟩ by unfold verbB; repeat (rw [if_neg (by omega)])]
    exact rverb_hi k h0 h9 w
  have : k = 1 ∨ k = 2 ∨ k = 3 ∨ k = 4 ∨ k = 5 ∨ k = 6 ∨ k = 7 ∨ k = 8 := by omega
  rcases this with rfl | rfl | rfl | rfl | rfl | rfl | rfl | rfl
  · exact rverb_1 w
  · exact rverb_2 w
  · exact rverb_3 w
  · exact rverb_4 w
  · exact rverb_5 w
  · exact rverb_6 w
  · exact rverb_7 w
  · exact rverb_8 w
end

end Go.Proofs.YtmndhffimlkjgaaDoor
