/- zig.Put. -/
import Derived.Test.YtfnabpmdjfejbaaDoorJZig
namespace Go.Proofs.YtfnabpmdjfejbaaDoor
set_option linter.unusedSimpArgs false
set_option linter.unusedVariables false
open Go.RowKit Go.Lib

theorem zputs_snoc (l : List Int) (n : Int) : zputs (l ++ [n]) = zputs l ++ zput n := by simp [zputs]
theorem big_byte {x : Nat} : bits .or .u8 ((x : Int) % 256) 128 = ((UInt8.ofNat (x % 128 + 128)).toNat : Nat) := by
  rw [u8_or128_any _ (by omega) (by omega), ofNat_toNat (by omega)]
  omega
theorem low_byte {x : Nat} (h : x < 128) : IntKind.u8.wrap (x : Int) = ((UInt8.ofNat x).toNat : Nat) := by
  rw [IntKind.wrap_u8, ofNat_toNat (by omega)]
  omega

set_option maxRecDepth 100000 in
set_option maxHeartbeats 4000000 in
theorem zigPut_any (v : Value) (l : List Int) (w : World) (hv : RowIn 1 numC w v l) (h : ∀ n ∈ l, I64 n) (hl : l.length ≤ 1000000) :
    Calls Tryd.prog 25 #[v] w fun e w' => ∃ A c, e = .returned (.slice A (zputs l).length c) ∧ OwnL byteC 5 1 w.heap.size w' (.slice A (zputs l).length c) (zputs l) ∧ Below w.heap.size w w' := by
  obtain ⟨A0, c0, rfl⟩ := hv.form
  have hl' : l.length ≤ 9223372036854775807 := by omega
  have HV := Lib.hid hv
  have HI := Lib.hid h
  have HLN := Lib.hid hl
  clear hv h hl
  go_enter Tryd.func25, Tryd.ntmps25
  go_wp2
  go_loopg [3, 9] l.length (fun g s3 s9 wr => ∃ k : Nat, k ≤ l.length ∧ l.length - k ≤ g ∧ s9 = .int .i64 k ∧ OwnL byteC 5 1 w.heap.size wr s3 (zputs (l.take k)) ∧ Below w.heap.size w wr)
  case atStart => exact ⟨0, Nat.zero_le _, Nat.le_refl _, rfl, OwnL.nil _ _, Below.refl _ _⟩
  case round =>
    obtain ⟨k, hk, hg, rfl, hown, hb⟩ := hrel
    by_cases hlt : k < l.length
    · obtain ⟨bb, o, rfl, hbw, hc⟩ := HV.out.at_ hlt
      have hn := HI.out _ (List.getElem_mem hlt)
      have HTK := Lib.hid (show zputs (l.take (k + 1)) = zputs (l.take k) ++ zput l[k] by rw [List.take_succ_eq_append_getElem hlt, zputs_snoc])
      have hlen : (zputs (l.take k)).length ≤ 10000000 := by
        have := zputs_len (l := l.take k) (fun n hn => HI.out n (List.mem_of_mem_take hn))
        have h2 := HLN.out
        simp at this
        omega
      have c1 := (hb.cell (p := ⟨bb, _, none⟩) hbw).trans (hc 0 _ rfl)
      rw [Nat.add_zero, Nat.mul_one] at c1
      generalize l[k] = n at c1 hn HTK
      generalize zputs (l.take k) = pre at hown HTK hlen
      have HN := Lib.hid hn
      have HO := Lib.hid hown
      have HB := Lib.hid hb
      have HLP := Lib.hid hlen
      clear hc hn hown hb hlen
      go_wp2_with (go_at_call 53
                   refine (zig_any n wr HN.out).mono ?_
                   rintro e w1 ⟨rfl, hb1⟩
                   have HB1 := Lib.hid hb1
                   clear hb1)
      go_loopg [3, 6] (zigN n) (fun g s3 s6 wt => ∃ (x : Nat) (out : List UInt8), x ≤ g ∧ x < 18446744073709551616 ∧ s6 = .int .u64 (x : Nat) ∧ OwnL byteC 5 1 w.heap.size wt s3 out ∧ out ++ varB x = pre ++ zput n ∧ Below w.heap.size w wt)
      case atStart => exact ⟨zigN n, pre, Nat.le_refl _, zig_lt HN.out, rfl, HO.out.below HB1.out, rfl, bthen HB.out HB1.out⟩
      case round =>
        rename World => wt
        obtain ⟨x, out, hxg, hx, rfl, hown, hout, hb⟩ := hrel
        obtain ⟨A3, c3, rfl⟩ := hown.form
        have hz10 := zput_ten HN.out
        have hol : out.length ≤ 10000010 := by
          have := congrArg List.length hout
          have h2 := HLP.out
          simp only [List.length_append] at this
          omega
        have HO2 := Lib.hid hown
        have HB2 := Lib.hid hb
        have HOL := Lib.hid hol
        have HOUT := Lib.hid hout
        clear hown hb hol hout hz10
        by_cases hbig : x < 128
        · have hgt : ¬ (127 : Int) < (x : Int) := by omega
          have hlow := low_byte hbig
          have HVB := Lib.hid (varB_small hbig)
          obtain ⟨bt, hbt⟩ : ∃ bt, bt = UInt8.ofNat x := ⟨_, rfl⟩
          rw [← hbt] at hlow HVB
          clear hbt
          go_wp2_with (at_builtin
                       refine wpList_appendL eByte (by rfl) (by rfl) w.heap.size out [bt] (.slice A3 out.length c3) _ (by rfl) (by rfl) (HO2.out.below (balloc (Below.refl _ _) _)) (RowIn.lit _ bt _ _ wt.heap.size rfl rfl) (by have := HOL.out; simp; omega) (by have := HB2.out.size; simp; omega) ?_
                       intro out2 A2 c2 w2 hout2 hown2 hg2 _
                       have hb2 : Below w.heap.size w w2 := (balloc HB2.out _).trans (grown_own hg2 HO2.out (by have := HB2.out.size; simp; omega))
                       have HW2 := Lib.hid hown2
                       have HOUT2 := Lib.hid hout2
                       have HBB := Lib.hid hb2
                       clear hown2 hout2 hg2 hb2)
          go_roundg (l.length - (k + 1))
          case measure => omega
          case rel => exact ⟨k + 1, hlt, Nat.le_refl _, by go_num, by rw [HTK.out, ← HOUT.out, HVB.out, ← HOUT2.out]; exact HW2.out, HBB.out⟩
        · have hgt : (127 : Int) < (x : Int) := by omega
          have hbb := big_byte (x := x)
          have HVB := Lib.hid (varB_big hbig)
          obtain ⟨bt, hbt⟩ : ∃ bt, bt = UInt8.ofNat (x % 128 + 128) := ⟨_, rfl⟩
          rw [← hbt] at hbb HVB
          clear hbt
          go_wp2_with (at_builtin
                       refine wpList_appendL eByte (by rfl) (by rfl) w.heap.size out [bt] (.slice A3 out.length c3) _ (by rfl) (by rfl) (HO2.out.below (balloc (Below.refl _ _) _)) (RowIn.lit _ bt _ _ wt.heap.size rfl rfl) (by have := HOL.out; simp; omega) (by have := HB2.out.size; simp; omega) ?_
                       intro out2 A2 c2 w2 hout2 hown2 hg2 _
                       have hb2 : Below w.heap.size w w2 := (balloc HB2.out _).trans (grown_own hg2 HO2.out (by have := HB2.out.size; simp; omega))
                       have HW2 := Lib.hid hown2
                       have HOUT2 := Lib.hid hout2
                       have HBB := Lib.hid hb2
                       clear hown2 hout2 hg2 hb2)
          go_roundg (x / 128)
          case measure => omega
          case rel => exact ⟨x / 128, out2, Nat.le_refl _, by omega, by rw [Int.natCast_ediv]; rfl, HW2.out, by rw [HOUT2.out, ← HOUT.out, HVB.out, List.append_assoc]; rfl, HBB.out⟩
    · obtain rfl : k = l.length := by omega
      rw [List.take_length] at hown
      obtain ⟨A3, c3, rfl⟩ := hown.form
      have HO := Lib.hid hown
      have HB := Lib.hid hb
      clear hown hb
      go_wp2
      go_ret
      exact ⟨A3, c3, rfl, HO.out, HB.out⟩
end Go.Proofs.YtfnabpmdjfejbaaDoor
