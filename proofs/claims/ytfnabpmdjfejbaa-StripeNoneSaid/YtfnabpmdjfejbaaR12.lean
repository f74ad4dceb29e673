/- The reference's Right of a policy. -/
import Derived.Test.YtfnabpmdjfejbaaCallPlain
namespace Go.Proofs.Ytfnabpmdjfejbaa
set_option linter.unusedSimpArgs false
set_option linter.unusedVariables false
open Go.RowKit Go.Lib

set_option maxRecDepth 100000 in
set_option maxHeartbeats 4000000 in
theorem r12right_any (p : Pol) (w : World) :
    Calls Try.prog 97 #[polV p] w fun e w' => e = .returned (.bool (polB p)) ∧ Below w.heap.size w w' := by
  unfold polV
  by_cases h0 : p.mn < 0
  · have HB : Hid (polB p = false) := Lib.hid (by simp [polB]; omega)
    rw [HB.out]
    go_enter Try.func97, Try.ntmps97
    go_wp2
    go_ret
    exact ⟨rfl, balloc (Below.refl _ _) _⟩
  · have h0' : ¬ p.mn < 0 := h0
    by_cases h1 : p.mx < 1
    · have HB : Hid (polB p = false) := Lib.hid (by simp [polB]; omega)
      rw [HB.out]
      go_enter Try.func97, Try.ntmps97
      go_wp2
      go_ret
      exact ⟨rfl, balloc (Below.refl _ _) _⟩
    · have h1' : ¬ p.mx < 1 := h1
      by_cases h2 : 1073741824 < p.mx
      · have HB : Hid (polB p = false) := Lib.hid (by simp [polB]; omega)
        rw [HB.out]
        go_enter Try.func97, Try.ntmps97
        go_wp2
        go_ret
        exact ⟨rfl, balloc (Below.refl _ _) _⟩
      · have h2' : ¬ 1073741824 < p.mx := h2
        by_cases h3 : p.mx < p.mn
        · have HB : Hid (polB p = false) := Lib.hid (by simp [polB]; omega)
          rw [HB.out]
          go_enter Try.func97, Try.ntmps97
          go_wp2
          go_ret
          exact ⟨rfl, balloc (Below.refl _ _) _⟩
        · have h3' : ¬ p.mx < p.mn := h3
          by_cases h4 : 1 ≤ p.tg
          case neg =>
            have HB : Hid (polB p = false) := Lib.hid (by simp [polB]; omega)
            rw [HB.out]
            go_enter Try.func97, Try.ntmps97
            go_wp2
            go_ret
            exact ⟨rfl, balloc (Below.refl _ _) _⟩
          by_cases h5 : 0 ≤ p.tol
          case neg =>
            have HB : Hid (polB p = false) := Lib.hid (by simp [polB]; omega)
            rw [HB.out]
            go_enter Try.func97, Try.ntmps97
            go_wp2
            go_ret
            exact ⟨rfl, balloc (Below.refl _ _) _⟩
          by_cases h6 : p.tol ≤ 999
          case neg =>
            have HB : Hid (polB p = false) := Lib.hid (by simp [polB]; omega)
            rw [HB.out]
            go_enter Try.func97, Try.ntmps97
            go_wp2
            go_ret
            exact ⟨rfl, balloc (Below.refl _ _) _⟩
          by_cases h7 : 1 ≤ p.win
          case neg =>
            have HB : Hid (polB p = false) := Lib.hid (by simp [polB]; omega)
            rw [HB.out]
            go_enter Try.func97, Try.ntmps97
            go_wp2
            go_ret
            exact ⟨rfl, balloc (Below.refl _ _) _⟩
          by_cases h8 : 0 ≤ p.hold
          case neg =>
            have HB : Hid (polB p = false) := Lib.hid (by simp [polB]; omega)
            rw [HB.out]
            go_enter Try.func97, Try.ntmps97
            go_wp2
            go_ret
            exact ⟨rfl, balloc (Below.refl _ _) _⟩
          have HB : Hid (polB p = true) := Lib.hid (by simp [polB]; omega)
          rw [HB.out]
          go_enter Try.func97, Try.ntmps97
          go_wp2
          go_ret
          exact ⟨rfl, balloc (Below.refl _ _) _⟩
end Go.Proofs.Ytfnabpmdjfejbaa
