/- flywheelref12.Dec: a number's text. -/
import Derived.Test.YtfnabpmdjfejbaaDoorJText5
namespace Go.Proofs.YtfnabpmdjfejbaaDoor
set_option linter.unusedSimpArgs false
set_option linter.unusedVariables false
open Go.RowKit Go.Lib

theorem dig_ext (d : Nat) (h : d < 10) : (⟨#[48, 49, 50, 51, 52, 53, 54, 55, 56, 57]⟩ : ByteArray).extract d (d + 1) = ⟨#[UInt8.ofNat (48 + d)]⟩ := by
  match d, h with
  | 0, _ => rfl
  | 1, _ => rfl
  | 2, _ => rfl
  | 3, _ => rfl
  | 4, _ => rfl
  | 5, _ => rfl
  | 6, _ => rfl
  | 7, _ => rfl
  | 8, _ => rfl
  | 9, _ => rfl
theorem decDigits_low {m : Nat} (h : m < 10) : decDigits m = [UInt8.ofNat (48 + m)] := by rw [decDigits, dif_pos h]
theorem decDigits_high {m : Nat} (h : ¬ m < 10) : decDigits m = decDigits (m / 10) ++ [UInt8.ofNat (48 + m % 10)] := by rw [decDigits, dif_neg h]
theorem decDigits_20 {N : Nat} (h : N ≤ 9223372036854775808) : (decDigits N).length ≤ 20 := by
  have := Lib.itoa_length_le (-(N : Int)) (by omega) (by omega)
  unfold itoa at this
  by_cases h0 : N = 0
  · subst h0; rw [decDigits_low (by decide)]; simp
  · rw [if_pos (by omega), List.length_cons, Int.natAbs_neg, Int.natAbs_natCast] at this
    omega
def DecTo (N m : Nat) (out : List UInt8) : Prop := (m < 10 ∧ decDigits N = out) ∨ (¬ m < 10 ∧ decDigits N = decDigits (m / 10) ++ out)
theorem DecTo.start (N : Nat) : DecTo N N [UInt8.ofNat (48 + N % 10)] := by
  by_cases h : N < 10
  · exact .inl ⟨h, by rw [decDigits_low h, Nat.mod_eq_of_lt h]⟩
  · exact .inr ⟨h, decDigits_high h⟩
theorem DecTo.next {N m : Nat} {out : List UInt8} (h : DecTo N m out) (hm : ¬ m < 10) : DecTo N (m / 10) (UInt8.ofNat (48 + m / 10 % 10) :: out) := by
  rcases h with ⟨h, _⟩ | ⟨_, h⟩
  · exact absurd h hm
  · by_cases h2 : m / 10 < 10
    · exact .inl ⟨h2, by rw [h, decDigits_low h2, Nat.mod_eq_of_lt h2]; rfl⟩
    · exact .inr ⟨h2, by rw [h, decDigits_high h2, List.append_assoc]; rfl⟩
theorem DecTo.len {N m : Nat} {out : List UInt8} (h : DecTo N m out) (hN : N ≤ 9223372036854775808) : out.length ≤ 20 := by
  have := decDigits_20 hN
  rcases h with ⟨_, h⟩ | ⟨_, h⟩
  · rw [h] at this; exact this
  · rw [h, List.length_append] at this; omega
theorem app_one (b : UInt8) (out : List UInt8) : (⟨#[b]⟩ : ByteArray) ++ ⟨out.toArray⟩ = ⟨(b :: out).toArray⟩ := by
  have : (⟨[b].toArray⟩ : ByteArray) ++ ⟨out.toArray⟩ = ⟨([b] ++ out).toArray⟩ := by rw [ByteArray.mk_append_mk]
  exact this

set_option maxRecDepth 100000 in
set_option maxHeartbeats 4000000 in
theorem rdec_pos (N : Nat) (w : World) (hN : N ≤ 9223372036854775807) :
    Calls Tryd.prog 37 #[.int .i64 (N : Nat)] w fun e w' => e = .returned (.string ⟨(Lib.decDigits N).toArray⟩) ∧ w' = w := by
  have h0 : ¬ (N : Int) < 0 := by omega
  have hd := dig_ext (N % 10) (Nat.mod_lt _ (by decide))
  have HST := Lib.hid (DecTo.start N)
  generalize UInt8.ofNat (48 + N % 10) = b0 at hd HST
  go_enter Tryd.func37, Tryd.ntmps37
  go_wp2
  clear hd
  go_loopg [0, 5] N (fun g s0 s5 wr => ∃ (m : Nat) (out : List UInt8), m ≤ g ∧ m ≤ 9223372036854775807 ∧ s0 = .int .i64 (m : Nat) ∧ s5 = .string ⟨out.toArray⟩ ∧ DecTo N m out ∧ wr = w)
  case atStart => exact ⟨N, [b0], Nat.le_refl _, hN, rfl, rfl, HST.out, rfl⟩
  case round =>
    obtain ⟨m, out, hg, hm, rfl, rfl, hto, rfl⟩ := hrel
    have hol := hto.len (by omega)
    have HTO := Lib.hid hto
    clear hto
    by_cases hlt : m < 10
    · have q : ¬ (10 : Int) ≤ (m : Int) := by omega
      go_wp2
      go_ret
      have := HTO.out
      rcases this with ⟨_, h⟩ | ⟨h, _⟩
      · exact ⟨by rw [h]; rfl, rfl⟩
      · exact absurd hlt h
    · have q : (10 : Int) ≤ (m : Int) := by omega
      have HN := Lib.hid (HTO.out.next hlt)
      obtain ⟨m', hm'⟩ : ∃ m', m' = m / 10 := ⟨_, rfl⟩
      rw [← hm'] at HN
      have hq : (m : Int) / 10 = (m' : Nat) := by rw [hm']; simp
      have hlt' : m' < m := by omega
      have hd := dig_ext (m' % 10) (Nat.mod_lt _ (by decide))
      generalize UInt8.ofNat (48 + m' % 10) = b1 at hd HN
      have ha := app_one b1 out
      clear hm'
      go_wp2
      go_roundg m'
      case measure => omega
      case rel => exact ⟨m', _, Nat.le_refl _, by omega, rfl, rfl, HN.out, rfl⟩
end Go.Proofs.YtfnabpmdjfejbaaDoor
