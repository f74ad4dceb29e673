/- Two lists of texts that are alike are told so. -/
import Derived.Test.YtmndhffimlkjgaaDoorJ14
namespace Go.Proofs.YtmndhffimlkjgaaDoor

section
set_option linter.unusedSimpArgs false
set_option linter.unusedVariables false
open Go.RowKit Go.Lib

set_option maxRecDepth 100000 in
set_option maxHeartbeats 4000000 in
theorem texts_any (v u : Value) (l : List ByteArray) (w : World) (hv : RowIn 1 strC w v l) (hu : RowIn 1 strC w u l) (hl : l.length ≤ 1000000) :
    Calls Tryd.prog 9 #[v, u] w fun e w' => e = .returned (.bool true) ∧ Below w.heap.size w w' := by
  obtain ⟨A, c, rfl, _, h0⟩ := id hv
  obtain ⟨B, d, rfl, _, h1⟩ := id hu
  clear h0 h1
  have HV := Lib.hid hv
  have HU := Lib.hid hu
  have q0 : (l.length : Int) ≤ 1000000 := by omega
  clear hv hu hl
  go_enter Tryd.func9, Tryd.ntmps9
  go_wp2
  go_loopg [5] l.length (fun g s5 wr => ∃ k n : Nat, k ≤ l.length ∧ l.length - k ≤ g ∧ s5 = .int .i64 k ∧ wr = w.drewN n)
  case atStart => exact ⟨0, 0, Nat.zero_le _, Nat.le_refl _, rfl, rfl⟩
  case round =>
    obtain ⟨k, n, hk, hg, rfl, rfl⟩ := hrel
    by_cases hlt : k < l.length
    · obtain ⟨b1, o1, rfl, hb1, c1⟩ := HV.out.at_ hlt
      obtain ⟨b2, o2, rfl, hb2, c2⟩ := HU.out.at_ hlt
      have c1 := c1 0 _ rfl
      have c2 := c2 0 _ rfl
      rw [Nat.add_zero, Nat.mul_one] at c1 c2
      generalize l[k] = x at c1 c2
      go_wp2_with fail
      go_quiet (fail)
      go_wp2
      go_roundg (l.length - (k + 1))
      case measure => omega
      case rel => exact ⟨k + 1, _, hlt, Nat.le_refl _, by go_num, rfl⟩
    · obtain rfl : k = l.length := by omega
      go_wp2
      go_ret
      exact ⟨rfl, below_drewN (Below.refl _ _) _⟩
end

end Go.Proofs.YtmndhffimlkjgaaDoor
