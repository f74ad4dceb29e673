/- journal.sum, flywheelref50.Seal. -/
import Derived.Test.YtfnabpmdjfejbaaDoorJBytes
namespace Go.Proofs.YtfnabpmdjfejbaaDoor
set_option linter.unusedSimpArgs false
set_option linter.unusedVariables false
open Go.RowKit Go.Lib

theorem OwnL.lits {α : Type} {e : TypeId} {n : Nat} {f : α → List Value} (base : Nat) (w : World) (l : List α) (cs : Array Value) (B k : Nat) (hB : w.heap.size = B) (hb : base ≤ B) (hk : l.length = k) (hm : k ≤ maxLen) (hcs : cellsOfRow f l = cs.toList) (hs : cs.size = k * n) :
    OwnL f e n base (w.alloc (.cells cs e)) (.slice (some ⟨B, 0, none⟩) k k) l := by
  subst hB hk
  have := World.ownsRow_lit (base := base) (e := e) (size := n) w cs l.length hb hm hs
  unfold OwnL
  rw [hcs]
  exact this

def seal4 (h : Nat) : List UInt8 := [UInt8.ofNat (h % 256), UInt8.ofNat (h / 256 % 256), UInt8.ofNat (h / 65536 % 256), UInt8.ofNat (h / 16777216 % 256)]
def sealB (l : List UInt8) : List UInt8 := seal4 (sum32 l)
theorem sealB_len (l : List UInt8) : (sealB l).length = 4 := rfl

set_option maxRecDepth 100000 in
set_option maxHeartbeats 4000000 in
theorem jsum_any (v : Value) (l : List UInt8) (w : World) (hv : RowIn 1 byteC w v l) (hl : l.length ≤ 100000000) :
    Calls Tryd.prog 27 #[v] w fun e w' => ∃ A c, e = .returned (.slice A (sealB l).length c) ∧ OwnL byteC 5 1 w.heap.size w' (.slice A (sealB l).length c) (sealB l) ∧ Below w.heap.size w w' := by
  have h1 := bytes_str hv
  obtain ⟨A0, c0, rfl⟩ := hv.form
  have hs := sum32_any ⟨l.toArray⟩ w (show (⟨l.toArray⟩ : ByteArray).size ≤ maxLen by show l.toArray.size ≤ maxLen; simp [maxLen]; omega)
  have hsl := sum32_lt l
  rw [show (⟨l.toArray⟩ : ByteArray).data.toList = l from by simp] at hs
  unfold sealB
  generalize sum32 l = h at hs hsl
  obtain ⟨b0, hb0⟩ : ∃ b, b = UInt8.ofNat (h % 256) := ⟨_, rfl⟩
  obtain ⟨b1, hb1⟩ : ∃ b, b = UInt8.ofNat (h / 256 % 256) := ⟨_, rfl⟩
  obtain ⟨b2, hb2⟩ : ∃ b, b = UInt8.ofNat (h / 65536 % 256) := ⟨_, rfl⟩
  obtain ⟨b3, hb3⟩ : ∃ b, b = UInt8.ofNat (h / 16777216 % 256) := ⟨_, rfl⟩
  have q0 : (h : Int) % 256 = (b0.toNat : Nat) := by rw [hb0, ofNat_toNat (by omega)]; omega
  have q1 : (h : Int) / 256 % 256 = (b1.toNat : Nat) := by rw [hb1, ofNat_toNat (by omega)]; omega
  have q2 : (h : Int) / 65536 % 256 = (b2.toNat : Nat) := by rw [hb2, ofNat_toNat (by omega)]; omega
  have q3 : (h : Int) / 16777216 = (b3.toNat : Nat) := by rw [hb3, ofNat_toNat (by omega)]; omega
  have HE := Lib.hid (show seal4 h = [b0, b1, b2, b3] by rw [hb0, hb1, hb2, hb3]; rfl)
  have HS := Lib.hid hs
  clear hv hs hb0 hb1 hb2 hb3
  go_enter Tryd.func27, Tryd.ntmps27
  go_wp2_with (go_at_call 54; refine HS.out.mono ?_; rintro e w1 ⟨rfl, rfl⟩)
  go_ret
  rw [HE.out]
  refine ⟨_, _, rfl, OwnL.lits (e := 5) w.heap.size w [b0, b1, b2, b3] _ w.heap.size 4 rfl (Nat.le_refl _) rfl (by decide) ?_ rfl, balloc (Below.refl _ _) _⟩
  rfl

theorem seal_take (h k : Nat) (hk : k < 4) : (seal4 h).take (k + 1) = (seal4 h).take k ++ [UInt8.ofNat (h / 256 ^ k % 256)] := by
  match k, hk with
  | 0, _ => simp [seal4]
  | 1, _ => simp [seal4]
  | 2, _ => simp [seal4]
  | 3, _ => simp [seal4]

set_option maxRecDepth 100000 in
set_option maxHeartbeats 4000000 in
theorem rseal_any (v : Value) (l : List UInt8) (w : World) (hv : RowIn 1 byteC w v l) (hl : l.length ≤ 10000000) :
    Calls Tryd.prog 32 #[v] w fun e w' => ∃ A c, e = .returned (.slice A (l ++ sealB l).length c) ∧ OwnL byteC 5 1 w.heap.size w' (.slice A (l ++ sealB l).length c) (l ++ sealB l) ∧ Below w.heap.size w w' := by
  have h1 := bytes_str hv
  obtain ⟨A0, c0, rfl⟩ := hv.form
  have hs := rsum32_any ⟨l.toArray⟩ w (show (⟨l.toArray⟩ : ByteArray).size ≤ maxLen by show l.toArray.size ≤ maxLen; simp [maxLen]; omega)
  have hsl := sum32_lt l
  rw [show (⟨l.toArray⟩ : ByteArray).data.toList = l from by simp] at hs
  unfold sealB
  generalize sum32 l = h at hs hsl
  have HV := Lib.hid hv
  have HS := Lib.hid hs
  have HL := Lib.hid hl
  clear hv hs hl
  go_enter Tryd.func32, Tryd.ntmps32
  go_wp2_with (first
    | (go_at_call 59; refine HS.out.mono ?_; rintro e w1 ⟨rfl, rfl⟩)
    | (at_builtin
       refine wpList_appendL eByte (by rfl) (by rfl) w.heap.size [] l _ _ (by rfl) (by rfl) (OwnL.lit0 _ w _ _ rfl (Nat.le_refl _)) (HV.out.below (balloc (Below.refl _ _) _)) (by have := HL.out; simp; omega) (by simp) ?_
       intro out2 A2 c2 w2 hout2 hown2 hg2 _
       have hb2 : Below w.heap.size w w2 := (balloc (Below.refl _ _) _).trans (grown_own hg2 (OwnL.lit0 (f := byteC) (n := 1) w.heap.size w 5 w.heap.size rfl (Nat.le_refl _)) (by simp))
       have HW2 := Lib.hid hown2
       have HOUT2 := Lib.hid hout2
       have HB2 := Lib.hid hb2
       clear hown2 hout2 hg2 hb2))
  go_loopg [3, 4, 5] 4 (fun g s3 s4 s5 wr => ∃ (k : Nat), k ≤ 4 ∧ 4 - k ≤ g ∧ s5 = .int .i64 k ∧ s3 = .int .u32 (h / 256 ^ k : Nat) ∧ OwnL byteC 5 1 w.heap.size wr s4 (l ++ (seal4 h).take k) ∧ Below w.heap.size w wr)
  case atStart => exact ⟨0, by decide, Nat.le_refl _, rfl, by simp, by have := HW2.out; rw [HOUT2.out] at this; simpa [HOUT2.out] using this, HB2.out⟩
  case round =>
    obtain ⟨k, hk, hg, rfl, rfl, hown, hb⟩ := hrel
    by_cases hlt : k < 4
    · have HST := Lib.hid (seal_take h k hlt)
      have HP := Lib.hid (show h / 256 ^ (k + 1) = h / 256 ^ k / 256 by rw [Nat.pow_succ, Nat.div_div_eq_div_mul])
      obtain ⟨out, hout⟩ : ∃ out, out = l ++ (seal4 h).take k := ⟨_, rfl⟩
      rw [← hout] at hown
      have hol : out.length ≤ 10000004 := by rw [hout]; have := HL.out; simp [seal4]; omega
      obtain ⟨A4, c4, rfl⟩ := hown.form
      obtain ⟨bt, hbt⟩ : ∃ b, b = UInt8.ofNat (h / 256 ^ k % 256) := ⟨_, rfl⟩
      have hH : h / 256 ^ k ≤ h := Nat.div_le_self _ _
      generalize hHH : h / 256 ^ k = H at hbt hH HP HST
      clear hHH
      have q0 : (H : Int) % 256 = (bt.toNat : Nat) := by rw [hbt, ofNat_toNat (by omega)]; omega
      have HBT := Lib.hid hbt
      have HO := Lib.hid hown
      have HB := Lib.hid hb
      have HOUT := Lib.hid hout
      have HOL := Lib.hid hol
      clear hbt hown hb hout hol
      go_wp2_with (at_builtin
                   refine wpList_appendL eByte (by rfl) (by rfl) w.heap.size out [bt] (.slice A4 out.length c4) _ (by rfl) (by rfl) (HO.out.below (balloc (Below.refl _ _) _)) (RowIn.lit _ bt _ _ wr.heap.size rfl rfl) (by have := HOL.out; simp; omega) (by have := HB.out.size; simp; omega) ?_
                   intro out3 A3 c3 w3 hout3 hown3 hg3 _
                   have hb3 : Below w.heap.size w w3 := (balloc HB.out _).trans (grown_own hg3 HO.out (by have := HB.out.size; simp; omega))
                   have HW3 := Lib.hid hown3
                   have HOUT3 := Lib.hid hout3
                   have HB3 := Lib.hid hb3
                   clear hown3 hout3 hg3 hb3)
      go_roundg (4 - (k + 1))
      case measure => omega
      case rel => exact ⟨k + 1, hlt, Nat.le_refl _, by go_num, by rw [HP.out]; simp, by have := HW3.out; rw [HOUT3.out, HOUT.out, HBT.out] at this; rw [HST.out, ← List.append_assoc]; simpa [HOUT3.out, HOUT.out, HBT.out] using this, HB3.out⟩
    · obtain rfl : k = 4 := by omega
      rw [show (seal4 h).take 4 = seal4 h from rfl] at hown
      obtain ⟨A4, c4, rfl⟩ := hown.form
      have HO := Lib.hid hown
      have HB := Lib.hid hb
      clear hown hb
      go_wp2
      go_ret
      exact ⟨A4, c4, rfl, HO.out, HB.out⟩
end Go.Proofs.YtfnabpmdjfejbaaDoor
