/- flywheellaw50.JournalGets. -/
import Derived.Test.YtfnabpmdjfejbaaDoorJLaw1
namespace Go.Proofs.YtfnabpmdjfejbaaDoor
set_option linter.unusedSimpArgs false
set_option linter.unusedVariables false
open Go.RowKit Go.Lib

set_option maxRecDepth 100000 in
set_option maxHeartbeats 4000000 in
theorem gets_long (A : Option Addr) (n c : Nat) (w : World) (hl : 600 < n) (hm : n ≤ maxLen) (hA : ∀ W, Below w.heap.size w W → Calls Tryd.prog 7 #[] W fun e w' => e = .returned (.bool true) ∧ Below W.heap.size W w') : Calls Tryd.prog 4 #[.slice A n c] w fun e w' => e = .returned (.bool true) ∧ Below w.heap.size w w' := by
  have HA := Lib.hid hA
  unfold maxLen at hm
  clear hA
  go_enter Tryd.func4, Tryd.ntmps4
  go_wp2_with (first
    | (go_at_call 7
       refine (HA.out w (Below.refl _ _)).mono ?_
       rintro e w1 ⟨rfl, hb1⟩
       have HB1 := Lib.hid hb1
       clear hb1))
  go_ret
  exact ⟨rfl, HB1.out⟩

set_option maxRecDepth 100000 in
set_option maxHeartbeats 4000000 in
theorem gets_nil (A : Option Addr) (c : Nat) (w : World) (hA : ∀ W, Below w.heap.size w W → Calls Tryd.prog 7 #[] W fun e w' => e = .returned (.bool true) ∧ Below W.heap.size W w')
    (hG : ∀ W, Below w.heap.size w W → Calls Tryd.prog 10 #[.slice A 0 c] W (GetSays W (callZ, 0, 11))) : Calls Tryd.prog 4 #[.slice A 0 c] w fun e w' => e = .returned (.bool true) ∧ Below w.heap.size w w' := by
  have HA := Lib.hid hA
  unfold GetSays callV callZ polZ at hG
  dsimp only at hG
  have HG := Lib.hid hG
  clear hA hG
  go_enter Tryd.func4, Tryd.ntmps4
  go_wp2_with (first
    | (go_at_call 7
       refine (HA.out w (Below.refl _ _)).mono ?_
       rintro e w1 ⟨rfl, hb1⟩
       have HB1 := Lib.hid hb1
       clear hb1)
    | (go_at_call 10
       refine (HG.out w1 HB1.out).mono ?_
       rintro e w2 ⟨rfl, hb2⟩
       have HB2 := Lib.hid (bthen HB1.out hb2)
       clear hb2))
  go_ret
  exact ⟨rfl, balloc HB2.out _⟩

set_option maxRecDepth 100000 in
set_option maxHeartbeats 4000000 in
theorem gets_short (A : Option Addr) (l : List UInt8) (c : Nat) (w : World) (hv : RowIn 1 byteC w (.slice A l.length c) l) (h0 : l ≠ []) (hl : l.length < (l.getD 0 0).toNat + 5) (hm : l.length ≤ 600) (hA : ∀ W, Below w.heap.size w W → Calls Tryd.prog 7 #[] W fun e w' => e = .returned (.bool true) ∧ Below W.heap.size W w')
    (hG : ∀ W, Below w.heap.size w W → Calls Tryd.prog 10 #[.slice A l.length c] W (GetSays W (callZ, 0, 11))) : Calls Tryd.prog 4 #[.slice A l.length c] w fun e w' => e = .returned (.bool true) ∧ Below w.heap.size w w' := by
  have HA := Lib.hid hA
  unfold GetSays callV callZ polZ at hG
  dsimp only at hG
  have HG := Lib.hid hG
  have hx := (l.getD 0 0).toNat_lt
  obtain ⟨b, o, rfl, hb, hc⟩ := hv.byte h0
  have hp : 0 < l.length := by cases l with | nil => exact absurd rfl h0 | cons => simp
  have c0 := hc 0 hp
  rw [Nat.add_zero, show l[0] = l.getD 0 0 by simp [List.getElem?_eq_getElem hp]] at c0
  have HC0 := Lib.hid c0
  have hne : ((l.length : Int) == 0) = false := by simp; omega
  generalize (l.getD 0 0).toNat = n0 at hl hx HC0
  generalize l.length = n at hl hm hne hp HG
  clear hA hG hv h0 hc c0
  go_enter Tryd.func4, Tryd.ntmps4
  go_wp2_with (first
    | (go_at_call 7
       refine (HA.out w (Below.refl _ _)).mono ?_
       rintro e w1 ⟨rfl, hb1⟩
       have HB1 := Lib.hid hb1
       clear hb1)
    | (go_at_call 10
       refine (HG.out w1 HB1.out).mono ?_
       rintro e w2 ⟨rfl, hb2⟩
       have HB2 := Lib.hid (bthen HB1.out hb2)
       have a2 := ((bthen HB1.out hb2).cell (p := ⟨b, o, none⟩) hb).trans HC0.out
       have a2l := Nat.lt_of_lt_of_le hb (bthen HB1.out hb2).size
       clear hb2))
  go_ret
  exact ⟨rfl, balloc HB2.out _⟩

set_option maxRecDepth 100000 in
set_option maxHeartbeats 4000000 in
theorem gets_form (A : Option Addr) (l : List UInt8) (c : Nat) (w : World) (hv : RowIn 1 byteC w (.slice A l.length c) l) (h0 : l ≠ []) (hl : ¬ l.length < (l.getD 0 0).toNat + 5) (hm : l.length ≤ 600) (hA : ∀ W, Below w.heap.size w W → Calls Tryd.prog 7 #[] W fun e w' => e = .returned (.bool true) ∧ Below W.heap.size W w')
    (hG : ∀ W, Below w.heap.size w W → Calls Tryd.prog 10 #[.slice A l.length c] W (GetSays W (callZ, 0, 10))) : Calls Tryd.prog 4 #[.slice A l.length c] w fun e w' => e = .returned (.bool true) ∧ Below w.heap.size w w' := by
  have HA := Lib.hid hA
  unfold GetSays callV callZ polZ at hG
  dsimp only at hG
  have HG := Lib.hid hG
  have hx := (l.getD 0 0).toNat_lt
  obtain ⟨b, o, rfl, hb, hc⟩ := hv.byte h0
  have hp : 0 < l.length := by cases l with | nil => exact absurd rfl h0 | cons => simp
  have c0 := hc 0 hp
  rw [Nat.add_zero, show l[0] = l.getD 0 0 by simp [List.getElem?_eq_getElem hp]] at c0
  have HC0 := Lib.hid c0
  have hne : ((l.length : Int) == 0) = false := by simp; omega
  generalize (l.getD 0 0).toNat = n0 at hl hx HC0
  generalize l.length = n at hl hm hne hp HG
  clear hA hG hv h0 hc c0
  go_enter Tryd.func4, Tryd.ntmps4
  go_wp2_with (first
    | (go_at_call 7
       refine (HA.out w (Below.refl _ _)).mono ?_
       rintro e w1 ⟨rfl, hb1⟩
       have HB1 := Lib.hid hb1
       clear hb1)
    | (go_at_call 10
       refine (HG.out w1 HB1.out).mono ?_
       rintro e w2 ⟨rfl, hb2⟩
       have HB2 := Lib.hid (bthen HB1.out hb2)
       have a2 := ((bthen HB1.out hb2).cell (p := ⟨b, o, none⟩) hb).trans HC0.out
       have a2l := Nat.lt_of_lt_of_le hb (bthen HB1.out hb2).size
       clear hb2))
  go_ret
  exact ⟨rfl, balloc HB2.out _⟩

set_option maxRecDepth 100000 in
set_option maxHeartbeats 4000000 in
theorem gets_ok (A : Option Addr) (l : List UInt8) (c : Nat) (w : World) (hv : RowIn 1 byteC w (.slice A l.length c) l) (h0 : l ≠ []) (hl : ¬ l.length < (l.getD 0 0).toNat + 5) (hm : l.length ≤ 600) (hA : ∀ W, Below w.heap.size w W → Calls Tryd.prog 7 #[] W fun e w' => e = .returned (.bool true) ∧ Below W.heap.size W w') (d : CallD) (m : List UInt8) (hml : m.length ≤ l.length) (hmt : m = l.take m.length)
    (hG : ∀ W, Below w.heap.size w W → Calls Tryd.prog 10 #[.slice A l.length c] W (GetSays W (d, m.length, 0)))
    (hP : ∀ W, Calls Tryd.prog 9 #[callV d] W (PutSays W m)) : Calls Tryd.prog 4 #[.slice A l.length c] w fun e w' => e = .returned (.bool true) ∧ Below w.heap.size w w' := by
  have HA := Lib.hid hA
  unfold GetSays callV at hG
  unfold PutSays callV at hP
  dsimp only at hG
  have HG := Lib.hid hG
  have HP := Lib.hid hP
  obtain ⟨ft, A4, c4, hft, hr4, ho4⟩ := row_to eByte hv m.length hml
  rw [← hmt] at hft
  subst hft
  have hx := (l.getD 0 0).toNat_lt
  have HV := Lib.hid hv
  obtain ⟨b, o, rfl, hb, hc⟩ := hv.byte h0
  have hp : 0 < l.length := by cases l with | nil => exact absurd rfl h0 | cons => simp
  have c0 := hc 0 hp
  rw [Nat.add_zero, show l[0] = l.getD 0 0 by simp [List.getElem?_eq_getElem hp]] at c0
  have HC0 := Lib.hid c0
  have hne : ((l.length : Int) == 0) = false := by simp; omega
  have HO4 := Lib.hid ho4
  generalize (l.getD 0 0).toNat = n0 at hl hx HC0
  generalize l.length = n at hl hm hne hp HG hr4 hml
  clear hA hG hP hv HV h0 hc c0 ho4 hmt
  go_enter Tryd.func4, Tryd.ntmps4
  go_upto_region 10 with (first
    | (go_at_call 7
       refine (HA.out w (Below.refl _ _)).mono ?_
       rintro e w1 ⟨rfl, hb1⟩
       have HB1 := Lib.hid hb1
       clear hb1)
    | (go_at_call 10
       refine (HG.out w1 HB1.out).mono ?_
       rintro e w2 ⟨rfl, hb2⟩
       have HB2 := Lib.hid (bthen HB1.out hb2)
       have a2 := ((bthen HB1.out hb2).cell (p := ⟨b, o, none⟩) hb).trans HC0.out
       have a2l := Nat.lt_of_lt_of_le hb (bthen HB1.out hb2).size
       clear hb2))
  go_upto_region 11 with (go_at_call 9
                          refine (HP.out _).mono ?_
                          rintro e w4 ⟨A5, c5, rfl, ho5, hb5⟩
                          have HB4 := Lib.hid (bthen (balloc HB2.out _) hb5)
                          have HO5 := Lib.hid (ho5.row eByte)
                          clear ho5 hb5)
  have s1 := bytes_str HO5.out
  have s2 := bytes_str (HO4.out.below HB4.out)
  have s1' : ∀ k, (Go.convert 27 9 (.slice A5 ft.length c5)).run Tryd.prog (w4.drewN k) = .ok (.string ⟨ft.toArray⟩) (w4.drewN k) := fun k => bytes_str (w := w4.drewN k) HO5.out
  have s2' : ∀ k, (Go.convert 27 9 (.slice A4 ft.length c4)).run Tryd.prog (w4.drewN k) = .ok (.string ⟨ft.toArray⟩) (w4.drewN k) := fun k => bytes_str (w := w4.drewN k) (HO4.out.below (below_drewN HB4.out k))
  have hd1 : decide ((ft.length : Int) ≤ (n : Int)) = true := by simpa using hml
  go_quiet (fail)
  go_wp2
  go_ret
  exact ⟨rfl, below_drewN HB4.out _⟩
theorem gets_all (v : Value) (l : List UInt8) (w : World) (hv : RowIn 1 byteC w v l) (hm : l.length ≤ maxLen) (ht : Tab w) : Calls Tryd.prog 4 #[v] w fun e w' => e = .returned (.bool true) ∧ Below w.heap.size w w' := by
  obtain ⟨A, c, rfl⟩ := hv.form
  have hA := fun W h => awake50_any W (ht.below (w' := W) h)
  by_cases h6 : 600 < l.length
  · exact gets_long A _ c w h6 hm hA
  have hG := fun (W : World) (h : Below w.heap.size w W) => jget_any (.slice A l.length c) l W (hv.below h) (by omega) (ht.below h)
  by_cases h0 : l = []
  · subst h0
    rw [get_short (.inl rfl)] at hG
    exact gets_nil A c w hA hG
  by_cases hl : l.length < (l.getD 0 0).toNat + 5
  · rw [get_short (.inr hl)] at hG
    exact gets_short A l c w hv h0 hl (by omega) hA hG
  by_cases he : (getB l).2.2 = 0
  · obtain ⟨_, hok, ht0, hp, hn, hle⟩ := get_ok he
    have e1 : getB l = ((getB l).1, (getB l).2.1, 0) := by rw [← he]
    have e2 : (putB (getB l).1).length = (getB l).2.1 := by rw [hp]; simp; omega
    rw [e1, ← e2] at hG
    exact gets_ok A l c w hv h0 hl (by omega) hA (getB l).1 (putB (getB l).1) (by rw [e2]; exact hle) (by rw [e2]; exact hp) hG (fun W => rput_ok _ W hok ht0)
  · rw [get_bad (fun h => h.elim h0 hl) he] at hG
    exact gets_form A l c w hv h0 hl (by omega) hA hG
end Go.Proofs.YtfnabpmdjfejbaaDoor
