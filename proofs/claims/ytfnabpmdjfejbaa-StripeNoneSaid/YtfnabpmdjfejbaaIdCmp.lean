/- The walk of ident's Cmp. -/
import Derived.Test.YtfnabpmdjfejbaaBase
namespace Go.Proofs.Ytfnabpmdjfejbaa
set_option linter.unusedSimpArgs false
set_option linter.unusedVariables false
open Go.RowKit Go.Lib

def cmpI (a b c d : Nat) : Int := if a = c ∧ b = d then 0 else if a < c ∨ a = c ∧ b < d then -1 else 1

set_option maxRecDepth 100000 in
set_option maxHeartbeats 1000000 in
theorem cmp_any (a b c d : Nat) (w : World) (h1 : a < 18446744073709551616) (h2 : b < 18446744073709551616) (h3 : c < 18446744073709551616) (h4 : d < 18446744073709551616) :
    Calls Try.prog 86 #[keyV a b, keyV c d] w fun e w' => e = .returned (.int .i64 (cmpI a b c d)) ∧ Below w.heap.size w w' := by
  unfold keyV
  by_cases e1 : a = c
  · subst e1
    by_cases e2 : b = d
    · subst e2
      have hv : cmpI a b a b = 0 := by simp [cmpI]
      rw [hv]
      clear hv
      go_enter Try.func86, Try.ntmps86
      go_wp2
      go_ret
      exact ⟨rfl, ((Below.refl _ _).alloc (Nat.le_refl _) _).alloc (by simp) _⟩
    · have q : ((b : Int) == (d : Int)) = false := by simp; omega
      by_cases e3 : b < d
      · have hv : cmpI a b a d = -1 := by simp [cmpI, e2, e3]
        rw [hv]
        clear hv
        go_enter Try.func86, Try.ntmps86
        go_wp2
        go_ret
        exact ⟨rfl, ((Below.refl _ _).alloc (Nat.le_refl _) _).alloc (by simp) _⟩
      · have hv : cmpI a b a d = 1 := by simp [cmpI, e2, e3]
        rw [hv]
        clear hv
        go_enter Try.func86, Try.ntmps86
        go_wp2
        go_ret
        exact ⟨rfl, ((Below.refl _ _).alloc (Nat.le_refl _) _).alloc (by simp) _⟩
  · have q : ((a : Int) == (c : Int)) = false := by simp; omega
    by_cases e3 : a < c
    · have hv : cmpI a b c d = -1 := by simp [cmpI, e1, e3]
      rw [hv]
      clear hv
      go_enter Try.func86, Try.ntmps86
      go_wp2
      go_ret
      exact ⟨rfl, ((Below.refl _ _).alloc (Nat.le_refl _) _).alloc (by simp) _⟩
    · have hv : cmpI a b c d = 1 := by simp [cmpI, e1, e3]
      rw [hv]
      clear hv
      go_enter Try.func86, Try.ntmps86
      go_wp2
      go_ret
      exact ⟨rfl, ((Below.refl _ _).alloc (Nat.le_refl _) _).alloc (by simp) _⟩

end Go.Proofs.Ytfnabpmdjfejbaa
