/- The walk of IdentRises. -/
import Derived.Test.YthfkgffalhkeeaaRising
import Derived.Test.YthfkgffalhkeeaaRefRis
import Derived.Test.YthfkgffalhkeeaaIdLaws
namespace Go.Proofs.Ythfkgffalhkeeaa
open Go.RowKit Go.Lib

set_option maxRecDepth 100000 in
set_option maxHeartbeats 2000000 in
theorem rises_walk (v : Value) (l : List Ky) (w : World) (hv : KeysIn w v l) (hok : ∀ p ∈ l, p.ok) (hl : l.length ≤ maxLen) :
    Calls Try.prog 7 #[v] w fun e w' => e = .returned (.bool true) ∧ Below w.heap.size w w' := by
  have hl' : l.length ≤ 9223372036854775807 := hl
  obtain ⟨A, c, rfl, _⟩ := id hv
  by_cases hb : l.length ≤ 60
  · have HV := Lib.hid hv
    have HO := Lib.hid hok
    have hr : (risL l).length ≤ maxLen := by have := len_risL l; simp only [maxLen]; omega
    have hsame : sameK (risL l) (risL l) = true := by simp [sameK]
    have HS := Lib.hid hsame
    clear hv hok hsame
    go_enter Try.func7, Try.ntmps7
    go_wp2_with (first
      | (go_at_call 8; refine (awake_any _).mono ?_; rintro e w1 ⟨rfl, hb1⟩
         have hv1 := Lib.hid (HV.out.below hb1))
      | (go_at_call 25; refine (rising_any _ l _ hv1.out (by omega)).mono ?_; rintro e w2 ⟨v2, rfl, hk2, hb2⟩
         have HK2 := Lib.hid hk2
         have hv2 := Lib.hid (hv1.out.below hb2)
         obtain ⟨A2, c2, rfl, _⟩ := id hk2
         clear hk2)
      | (go_at_call 26; refine (refRising_any _ l _ hv2.out HO.out (by omega)).mono ?_; rintro e w3 ⟨v3, rfl, hk3, hb3⟩
         have HK3 := Lib.hid (KeysIn.own hk3)
         have hk2 := Lib.hid (HK2.out.below hb3)
         obtain ⟨A3, c3, rfl, _⟩ := id HK3.out
         clear hk3)
      | (go_at_call 24; refine (same_any _ _ _ _ _ hk2.out HK3.out hr hr).mono ?_; rw [HS.out]; rintro e w4 ⟨rfl, hb4⟩))
    go_ret
    exact ⟨rfl, bthen (bthen (bthen hb1 hb2) hb3) hb4⟩
  · clear hv hok
    have hb' : 60 < l.length := by omega
    go_enter Try.func7, Try.ntmps7
    go_wp2_with (first
      | (go_at_call 8; refine (awake_any _).mono ?_; rintro e w1 ⟨rfl, hb1⟩))
    go_ret
    exact ⟨rfl, hb1⟩
end Go.Proofs.Ythfkgffalhkeeaa
