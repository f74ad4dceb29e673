/- flywheelref06.Zig, Put, All. -/
import Derived.Test.YtfnabpmdjfejbaaDoorJZigPut
namespace Go.Proofs.YtfnabpmdjfejbaaDoor
set_option linter.unusedSimpArgs false
set_option linter.unusedVariables false
open Go.RowKit Go.Lib

set_option maxRecDepth 100000 in
set_option maxHeartbeats 4000000 in
theorem rzig_any (n : Int) (w : World) (h : I64 n) :
    Calls Tryd.prog 76 #[.int .i64 n] w fun e w' => e = .returned (.int .u64 (zigN n : Nat)) ∧ Below w.heap.size w w' := by
  unfold I64 at h
  by_cases h0 : 0 ≤ n
  · have hz : IntKind.u64.wrap (2 * IntKind.u64.wrap n) = (zigN n : Nat) := by
      have hw : ∀ x : Int, IntKind.u64.wrap x = x % 18446744073709551616 := fun x => by simp [IntKind.wrap, IntKind.bits, IntKind.signed]
      rw [hw, hw]; unfold zigN; rw [if_pos h0]; omega
    have HZ := Lib.hid hz
    clear hz h
    go_enter Tryd.func76, Tryd.ntmps76
    go_wp2
    go_ret
    exact ⟨ret_int HZ.out, Below.refl _ _⟩
  · have hz : 2 * (-1 - n) + 1 = ((zigN n : Nat) : Int) := by unfold zigN; rw [if_neg h0]; omega
    have HZ := Lib.hid hz
    have hlo : -9223372036854775808 ≤ -1 - n := by omega
    have hhi : -1 - n ≤ 9223372036854775807 := by omega
    clear hz h
    go_enter Tryd.func76, Tryd.ntmps76
    go_wp2
    go_ret
    exact ⟨ret_int HZ.out, Below.refl _ _⟩
theorem rbig_byte {x : Nat} : ((x : Int) % 128 + 128) % 256 = ((UInt8.ofNat (x % 128 + 128)).toNat : Nat) := by rw [ofNat_toNat (by omega)]; omega
theorem rbig_byte2 {x : Nat} : (x : Int) % 128 + 128 = ((UInt8.ofNat (x % 128 + 128)).toNat : Nat) := by rw [ofNat_toNat (by omega)]; omega

set_option maxRecDepth 100000 in
set_option maxHeartbeats 4000000 in
theorem rzput_any (n : Int) (w : World) (h : I64 n) :
    Calls Tryd.prog 58 #[.int .i64 n] w fun e w' => ∃ A c, e = .returned (.slice A (zput n).length c) ∧ OwnL byteC 5 1 w.heap.size w' (.slice A (zput n).length c) (zput n) ∧ Below w.heap.size w w' := by
  have HN := Lib.hid h
  clear h
  go_enter Tryd.func58, Tryd.ntmps58
  go_wp2_with (go_at_call 76
               refine (rzig_any n w HN.out).mono ?_
               rintro e w1 ⟨rfl, hb1⟩
               have HB1 := Lib.hid hb1
               clear hb1)
  go_loopg [3, 4] (zigN n) (fun g s3 s4 wr => ∃ (x : Nat) (out : List UInt8), x ≤ g ∧ x < 18446744073709551616 ∧ s3 = .int .u64 (x : Nat) ∧ OwnL byteC 5 1 w.heap.size wr s4 out ∧ out ++ varB x = zput n ∧ Below w.heap.size w wr)
  case atStart => exact ⟨zigN n, [], Nat.le_refl _, zig_lt HN.out, rfl, OwnL.nil _ _, rfl, HB1.out⟩
  case round =>
    obtain ⟨x, out, hxg, hx, rfl, hown, hout, hb⟩ := hrel
    obtain ⟨A3, c3, rfl⟩ := hown.form
    have hol : out.length ≤ 10 := by
      have h1 := zput_ten HN.out
      have := congrArg List.length hout
      simp only [List.length_append] at this
      omega
    have HO2 := Lib.hid hown
    have HB2 := Lib.hid hb
    have HOL := Lib.hid hol
    have HOUT := Lib.hid hout
    clear hown hb hol hout
    by_cases hbig : x < 128
    · have hgt : ¬ (128 : Int) ≤ (x : Int) := by omega
      have hlow := low_byte hbig
      have HVB := Lib.hid (varB_small hbig)
      obtain ⟨bt, hbt⟩ : ∃ bt, bt = UInt8.ofNat x := ⟨_, rfl⟩
      rw [← hbt] at hlow HVB
      clear hbt
      go_wp2_with (at_builtin
                   refine wpList_appendL eByte (by rfl) (by rfl) w.heap.size out [bt] (.slice A3 out.length c3) _ (by rfl) (by rfl) (HO2.out.below (balloc (Below.refl _ _) _)) (RowIn.lit _ bt _ _ wr.heap.size rfl rfl) (by have := HOL.out; simp; omega) (by have := HB2.out.size; simp; omega) ?_
                   intro out2 A2 c2 w2 hout2 hown2 hg2 _
                   have hb2 : Below w.heap.size w w2 := (balloc HB2.out _).trans (grown_own hg2 HO2.out (by have := HB2.out.size; simp; omega))
                   have HW2 := Lib.hid hown2
                   have HOUT2 := Lib.hid hout2
                   have HBB := Lib.hid hb2
                   clear hown2 hout2 hg2 hb2)
      go_ret
      have h1 := HW2.out
      rw [show out2 = zput n by rw [HOUT2.out, ← HOUT.out, HVB.out]] at h1
      exact ⟨A2, c2, by rw [HOUT2.out, ← HOUT.out, HVB.out]; rfl, h1, HBB.out⟩
    · have hgt : (128 : Int) ≤ (x : Int) := by omega
      have hbb := rbig_byte (x := x)
      have hbb2 := rbig_byte2 (x := x)
      have HVB := Lib.hid (varB_big hbig)
      obtain ⟨bt, hbt⟩ : ∃ bt, bt = UInt8.ofNat (x % 128 + 128) := ⟨_, rfl⟩
      rw [← hbt] at hbb hbb2 HVB
      clear hbt
      go_wp2_with (at_builtin
                   refine wpList_appendL eByte (by rfl) (by rfl) w.heap.size out [bt] (.slice A3 out.length c3) _ (by rfl) (by rfl) (HO2.out.below (balloc (Below.refl _ _) _)) (RowIn.lit _ bt _ _ wr.heap.size rfl rfl) (by have := HOL.out; simp; omega) (by have := HB2.out.size; simp; omega) ?_
                   intro out2 A2 c2 w2 hout2 hown2 hg2 _
                   have hb2 : Below w.heap.size w w2 := (balloc HB2.out _).trans (grown_own hg2 HO2.out (by have := HB2.out.size; simp; omega))
                   have HW2 := Lib.hid hown2
                   have HOUT2 := Lib.hid hout2
                   have HBB := Lib.hid hb2
                   clear hown2 hout2 hg2 hb2)
      go_roundg (x / 128)
      case measure => omega
      case rel => exact ⟨x / 128, out2, Nat.le_refl _, by omega, by rw [Int.natCast_ediv]; rfl, HW2.out, by rw [HOUT2.out, ← HOUT.out, HVB.out, List.append_assoc]; rfl, HBB.out⟩

set_option maxRecDepth 100000 in
set_option maxHeartbeats 4000000 in
theorem rzputs_any (v : Value) (l : List Int) (w : World) (hv : RowIn 1 numC w v l) (h : ∀ n ∈ l, I64 n) (hl : l.length ≤ 1000000) :
    Calls Tryd.prog 30 #[v] w fun e w' => ∃ A c, e = .returned (.slice A (zputs l).length c) ∧ OwnL byteC 5 1 w.heap.size w' (.slice A (zputs l).length c) (zputs l) ∧ Below w.heap.size w w' := by
  obtain ⟨A0, c0, rfl⟩ := hv.form
  have hl' : l.length ≤ 9223372036854775807 := by omega
  have HV := Lib.hid hv
  have HI := Lib.hid h
  have HLN := Lib.hid hl
  clear hv h hl
  go_enter Tryd.func30, Tryd.ntmps30
  go_wp2
  go_loopg [3, 4] l.length (fun g s3 s4 wr => ∃ k : Nat, k ≤ l.length ∧ l.length - k ≤ g ∧ s4 = .int .i64 k ∧ OwnL byteC 5 1 w.heap.size wr s3 (zputs (l.take k)) ∧ Below w.heap.size w wr)
  case atStart => exact ⟨0, Nat.zero_le _, Nat.le_refl _, rfl, OwnL.nil _ _, Below.refl _ _⟩
  case round =>
    obtain ⟨k, hk, hg, rfl, hown, hb⟩ := hrel
    by_cases hlt : k < l.length
    · obtain ⟨bb, o, rfl, hbw, hc⟩ := HV.out.at_ hlt
      have hn := HI.out _ (List.getElem_mem hlt)
      have HTK := Lib.hid (show zputs (l.take (k + 1)) = zputs (l.take k) ++ zput l[k] by rw [List.take_succ_eq_append_getElem hlt, zputs_snoc])
      have hlen : (zputs (l.take k)).length ≤ 10000000 := by
        have := zputs_len (l := l.take k) (fun n hn => HI.out n (List.mem_of_mem_take hn))
        have h2 := HLN.out
        simp at this
        omega
      have c1 := (hb.cell (p := ⟨bb, _, none⟩) hbw).trans (hc 0 _ rfl)
      rw [Nat.add_zero, Nat.mul_one] at c1
      have hkn : (k : Int) < (l.length : Int) := by omega
      generalize l[k] = n at c1 hn HTK
      generalize zputs (l.take k) = pre at hown HTK hlen
      obtain ⟨A3, c3, rfl⟩ := hown.form
      have HN := Lib.hid hn
      have HO := Lib.hid hown
      have HB := Lib.hid hb
      have HLP := Lib.hid hlen
      clear hc hn hown hb hlen
      go_wp2_with (first
        | (go_at_call 58
           refine (rzput_any n wr HN.out).mono ?_
           rintro e w1 ⟨A1, c1', rfl, hw1, hb1⟩
           have HZ1 := Lib.hid hw1
           have HB1 := Lib.hid hb1
           clear hw1 hb1)
        | (at_builtin
           refine wpList_appendL eByte (by rfl) (by rfl) w.heap.size pre (zput n) (.slice A3 pre.length c3) _ (by rfl) (by rfl) (HO.out.below HB1.out) (HZ1.out.row eByte) (by have := HLP.out; have := zput_ten HN.out; omega) (by have := HB.out.size; have := HB1.out.size; omega) ?_
           intro out2 A2 c2 w2 hout2 hown2 hg2 _
           have hb2 : Below w.heap.size w w2 := (bthen HB.out HB1.out).trans (grown_own hg2 HO.out (by have := HB.out.size; have := HB1.out.size; omega))
           have HW2 := Lib.hid hown2
           have HOUT2 := Lib.hid hout2
           have HBB := Lib.hid hb2
           clear hown2 hout2 hg2 hb2))
      go_roundg (l.length - (k + 1))
      case measure => omega
      case rel => exact ⟨k + 1, hlt, Nat.le_refl _, by go_num, by rw [HTK.out, ← HOUT2.out]; exact HW2.out, HBB.out⟩
    · obtain rfl : k = l.length := by omega
      rw [List.take_length] at hown
      obtain ⟨A3, c3, rfl⟩ := hown.form
      have HO := Lib.hid hown
      have HB := Lib.hid hb
      clear hown hb
      go_wp2
      go_ret
      exact ⟨A3, c3, rfl, HO.out, HB.out⟩
end Go.Proofs.YtfnabpmdjfejbaaDoor
