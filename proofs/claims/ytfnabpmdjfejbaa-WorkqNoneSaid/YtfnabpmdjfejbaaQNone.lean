/- The walk of WorkqNone. -/
import Derived.Test.YtfnabpmdjfejbaaQAwake
namespace Go.Proofs.Ytfnabpmdjfejbaa
set_option linter.unusedSimpArgs false
set_option linter.unusedVariables false
open Go.RowKit Go.Lib

set_option maxRecDepth 100000 in
set_option maxHeartbeats 4000000 in
theorem none_walk (x : KO) (w : World) :
    Calls Try.prog 5 #[.agg #[.int .u64 x.1.1, .int .u64 x.1.2]] w fun e w' => e = .returned (.bool true) ∧ Below w.heap.size w w' := by
  go_enter Try.func5, Try.ntmps5
  have c1 : ∀ W, Below (w.alloc (.cells #[.int .u64 x.1.1, .int .u64 x.1.2] 32)).heap.size (w.alloc (.cells #[.int .u64 x.1.1, .int .u64 x.1.2] 32)) W → W.cell? ⟨w.heap.size, 0, none⟩ = some (.int .u64 x.1.1) := fun W hW => (hW.cell (p := ⟨w.heap.size, 0, none⟩) (by simp)).trans ((startA w _ _).1 0)
  have c2 : ∀ W, Below (w.alloc (.cells #[.int .u64 x.1.1, .int .u64 x.1.2] 32)).heap.size (w.alloc (.cells #[.int .u64 x.1.1, .int .u64 x.1.2] 32)) W → W.cell? ⟨w.heap.size, 1, none⟩ = some (.int .u64 x.1.2) := fun W hW => (hW.cell (p := ⟨w.heap.size, 1, none⟩) (by simp)).trans ((startA w _ _).1 1)
  go_wp2_with (first
    | (go_at_call 9; refine (qawake_any _).mono ?_; rintro e w1 ⟨rfl, hb1⟩)
    | (go_at_call 10; refine (qget_nil _).mono ?_; rintro e w2 ⟨rfl, hb2⟩; have hb2 := bthen hb1 hb2; obtain ⟨e1, e2⟩ := And.intro (c1 _ hb2) (c2 _ hb2); have hb2' := balloc hb2 (.cells #[.int .u64 0, .int .u64 0] 32); obtain ⟨e3, e4⟩ := And.intro (c1 _ hb2') (c2 _ hb2'))
    | (go_at_call 11; refine (done_nil x _).mono ?_; rintro e w3 ⟨rfl, hb3⟩; have hb3 := bthen hb2' hb3; obtain ⟨e5, e6⟩ := And.intro (c1 _ hb3) (c2 _ hb3))
    | (go_at_call 13; refine (add_nil x _).mono ?_; rintro e w4 ⟨rfl, hb4⟩; have hb4 := bthen hb3 hb4)
    | (go_at_call 12; refine (shut_nil _).mono ?_; rintro e w5 ⟨rfl, hb5⟩; have hb5 := bthen hb4 hb5)
    | (go_at_call 22; refine (over_nil _).mono ?_; rintro e w6 ⟨rfl, hb6⟩; have hb6 := bthen hb5 hb6)
    | (go_at_call 15; refine (waiting_nil _).mono ?_; rintro e w7 ⟨rfl, hb7⟩; have hb7 := bthen hb6 hb7)
    | (go_at_call 16; refine (busy_nil _).mono ?_; rintro e w8 ⟨rfl, hb8⟩; have hb8 := bthen hb7 hb8)
    | (go_at_call 17; refine (dirty_nil _).mono ?_; rintro e w9 ⟨rfl, hb9⟩; have hb9 := bthen hb8 hb9))
  go_ret
  exact ⟨rfl, (balloc (Below.refl _ _) _).trans (hb9.mono (by simp))⟩
end Go.Proofs.Ytfnabpmdjfejbaa
