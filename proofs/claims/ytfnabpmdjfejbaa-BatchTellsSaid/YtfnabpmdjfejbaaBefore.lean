/- The reference's Before, which turns nothing. -/
import Derived.Test.YtfnabpmdjfejbaaIdRef
namespace Go.Proofs.Ytfnabpmdjfejbaa
set_option linter.unusedSimpArgs false
set_option linter.unusedVariables false
open Go.RowKit Go.Lib

set_option maxRecDepth 100000 in
set_option maxHeartbeats 1000000 in
theorem before_quiet (s t : ByteArray) (w : World) (hs : s.size ≤ maxLen) (ht : t.size ≤ maxLen) :
    Calls Try.prog 63 #[.string s, .string t] w fun e w' => e = .returned (.bool (beforeS s t)) ∧ ∃ n, w' = w.drewN n := by
  unfold maxLen at hs ht
  go_enter Try.func63, Try.ntmps63
  go_wp2
  go_loopw [5] (fun i w' => ∃ k n : Nat, k ≤ s.size ∧ k ≤ t.size ∧ i = .int .i64 k ∧ SameTo s t k ∧ w' = w.drewN n) (fun i _ => s.size - (intOf i).toNat)
  case atStart => exact ⟨0, 0, by omega, by omega, rfl, fun j hj => absurd hj (by omega), rfl⟩
  case round =>
    obtain ⟨k, n, hk1, hk2, rfl, hsame, rfl⟩ := hrel
    by_cases hlt1 : k < s.size
    · by_cases hlt2 : k < t.size
      · by_cases he : s[k] = t[k]
        · have hsame' := sameTo_succ hsame hlt1 hlt2 he
          have Hs := Lib.hid hsame'
          have hq : (((s[k].toNat : Nat) : Int) != ((t[k].toNat : Nat) : Int)) = false := by rw [he]; simp
          clear hsame hsame' he
          go_wp2
          go_quiet (fail)
          go_wp2
          go_roundw
          case rel => exact ⟨k + 1, n + nq, by omega, by omega, by go_num, Hs.out, rfl⟩
          case measure => simp [intOf]; omega
        · have hf := before_at hsame hlt1 hlt2 he
          have Hf := Lib.hid hf
          have hq : (((s[k].toNat : Nat) : Int) != ((t[k].toNat : Nat) : Int)) = true := by
            rw [bne_iff_ne]
            intro h
            exact he (UInt8.toNat_inj.1 (Int.ofNat.inj h))
          clear hsame hf he
          go_wp2
          go_quiet (fail)
          go_wp2
          go_quiet (fail)
          go_wp2
          go_ret
          rw [Hf.out]
          refine ⟨?_, ⟨_, by (try simp only [World.drewN_drewN]); rfl⟩⟩
          simp
      · have hf := before_end hsame hk1 hk2 (.inr (by omega))
        have Hf := Lib.hid hf
        clear hsame hf
        go_wp2
        go_ret
        rw [Hf.out]
        refine ⟨?_, ⟨_, by (try simp only [World.drewN_drewN]); rfl⟩⟩
        simp
    · have hf := before_end hsame hk1 hk2 (.inl (by omega))
      have Hf := Lib.hid hf
      clear hsame hf
      go_wp2
      go_ret
      rw [Hf.out]
      refine ⟨?_, ⟨_, by (try simp only [World.drewN_drewN]); rfl⟩⟩
      simp


end Go.Proofs.Ytfnabpmdjfejbaa
