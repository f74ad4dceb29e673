/- flywheelref12.Dec at every number. -/
import Derived.Test.YtmndhffimlkjgaaDoorJ16
namespace Go.Proofs.YtmndhffimlkjgaaDoor

section
set_option linter.unusedSimpArgs false
set_option linter.unusedVariables false
open Go.RowKit Go.Lib

theorem rdec_mod (u : Nat) (w : World) : Calls Tryd.prog 19 #[.int .i64 ((u : Int) % 10)] w fun e w' => e = .returned (.string ⟨(Lib.decDigits (u % 10)).toArray⟩) ∧ w' = w := by
  have := rdec_pos (u % 10) w (by omega)
  rw [show ((u % 10 : Nat) : Int) = (u : Int) % 10 by omega] at this
  exact this
theorem rdec_div (u : Nat) (w : World) (hu : u ≤ 9223372036854775808) : Calls Tryd.prog 19 #[.int .i64 ((u : Int) / 10)] w fun e w' => e = .returned (.string ⟨(Lib.decDigits (u / 10)).toArray⟩) ∧ w' = w := by
  have := rdec_pos (u / 10) w (by omega)
  rw [show ((u / 10 : Nat) : Int) = (u : Int) / 10 by omega] at this
  exact this
theorem app_two (a b : List UInt8) : (⟨a.toArray⟩ : ByteArray) ++ ⟨b.toArray⟩ = ⟨(a ++ b).toArray⟩ := by rw [ByteArray.mk_append_mk]

set_option maxRecDepth 100000 in
set_option maxHeartbeats 4000000 in
theorem rdec_neg1 (u : Nat) (w : World) (h0 : 0 < u) (hu : u < 10) :
    Calls Tryd.prog 19 #[.int .i64 (-(u : Int))] w fun e w' => e = .returned (.string ⟨(Lib.itoa (-(u : Int))).toArray⟩) ∧ w' = w := by
  have q0 : (-(u : Int)) < 0 := by omega
  have q1 : (-10 : Int) < -(u : Int) := by omega
  have HE := Lib.hid (show Lib.itoa (-(u : Int)) = 45 :: decDigits (u % 10) by
    unfold itoa
    rw [if_pos q0, Int.natAbs_neg, Int.natAbs_natCast, Nat.mod_eq_of_lt hu])
  have HC := Lib.hid (rdec_mod u w)
  have hl := decDigits_20 (N := u % 10) (by omega)
  generalize decDigits (u % 10) = d at HE HC hl
  have ha := app_one 45 d
  go_enter Tryd.func19, Tryd.ntmps19
  go_wp2_with (go_at_call 19; refine HC.out.mono ?_; rintro e w1 ⟨rfl, rfl⟩)
  go_ret
  exact ⟨by rw [HE.out]; first | rfl | exact congrArg _ (congrArg _ ha), rfl⟩
set_option maxRecDepth 100000 in
set_option maxHeartbeats 4000000 in
theorem rdec_neg2 (u : Nat) (w : World) (hu : ¬ u < 10) (h9 : u ≤ 9223372036854775808) :
    Calls Tryd.prog 19 #[.int .i64 (-(u : Int))] w fun e w' => e = .returned (.string ⟨(Lib.itoa (-(u : Int))).toArray⟩) ∧ w' = w := by
  have q0 : (-(u : Int)) < 0 := by omega
  have q1 : ¬ (-10 : Int) < -(u : Int) := by omega
  have hb8 := decDigits_20 h9
  have HE := Lib.hid (show Lib.itoa (-(u : Int)) = (45 :: decDigits (u / 10)) ++ decDigits (u % 10) by
    unfold itoa
    rw [if_pos q0, Int.natAbs_neg, Int.natAbs_natCast, decDigits_high hu, decDigits_low (Nat.mod_lt u (by decide) : u % 10 < 10)]
    rfl)
  have HD := Lib.hid (rdec_div u w h9)
  have HC := Lib.hid (fun W => rdec_mod u W)
  have hl := decDigits_20 (N := u % 10) (by omega)
  have hl2 := decDigits_20 (N := u / 10) (by omega)
  clear hb8
  generalize decDigits (u % 10) = d at HE HC hl
  generalize decDigits (u / 10) = d2 at HE HD hl2
  have ha := app_one 45 d2
  have ha2 := app_two (45 :: d2) d
  go_enter Tryd.func19, Tryd.ntmps19
  go_wp2_with (first
    | (go_at_call 19; have h9 := HMARK; refine (HC.out _).mono ?_; rintro e w2 ⟨rfl, rfl⟩)
    | (go_at_call 19; refine HD.out.mono ?_; rintro e w1 ⟨rfl, rfl⟩; have HMARK := Lib.hid trivial))
  go_ret
  exact ⟨by rw [HE.out]; first | rfl | exact congrArg _ (congrArg _ ha2), rfl⟩
theorem rdec_any (n : Int) (w : World) (hn : I64 n) :
    Calls Tryd.prog 19 #[.int .i64 n] w fun e w' => e = .returned (.string (dec n)) ∧ w' = w := by
  unfold I64 at hn
  by_cases h0 : n < 0
  · obtain ⟨u, rfl⟩ : ∃ u : Nat, n = -(u : Int) := ⟨n.natAbs, by omega⟩
    by_cases hu : u < 10
    · exact rdec_neg1 u w (by omega) hu
    · exact rdec_neg2 u w hu (by omega)
  · obtain ⟨u, rfl⟩ : ∃ u : Nat, n = (u : Int) := ⟨n.toNat, by omega⟩
    have := rdec_pos u w (by omega)
    rw [show dec (u : Int) = ⟨(Lib.decDigits u).toArray⟩ by unfold dec itoa; rw [if_neg h0, Int.toNat_natCast]]
    exact this
end

end Go.Proofs.YtmndhffimlkjgaaDoor
