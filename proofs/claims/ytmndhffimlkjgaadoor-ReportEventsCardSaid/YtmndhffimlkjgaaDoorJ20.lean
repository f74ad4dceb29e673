/- flywheelref41.Reply: a reply's line. -/
import Derived.Test.YtmndhffimlkjgaaDoorJ19
import Derived.Deep.DeepCutAuto
namespace Go.Proofs.YtmndhffimlkjgaaDoor

section
set_option linter.unusedSimpArgs false
set_option linter.unusedVariables false
open Go.RowKit Go.Lib

def statZ (cnt sum least most mean : Int) : Bool := cnt == 0 && sum == 0 && least == 0 && most == 0 && mean == 0
def rep1 (epoch : Int) : ByteArray := if epoch = 0 then ⟨#[111, 107]⟩ else ⟨#[111, 107]⟩ ++ ⟨#[32, 101, 112, 111, 99, 104, 32]⟩ ++ dec epoch
def rep2 (s : ByteArray) (handle : Int) : ByteArray := if handle = 0 then s else s ++ ⟨#[32, 104, 97, 110, 100, 108, 101, 32]⟩ ++ dec handle
def rep3 (s : ByteArray) (cnt sum least most mean : Int) : ByteArray := if statZ cnt sum least most mean = true then s else s ++ ⟨#[32, 99, 111, 117, 110, 116, 32]⟩ ++ dec cnt ++ ⟨#[32, 115, 117, 109, 32]⟩ ++ dec sum ++ ⟨#[32, 108, 101, 97, 115, 116, 32]⟩ ++ dec least ++ ⟨#[32, 109, 111, 115, 116, 32]⟩ ++ dec most ++ ⟨#[32, 109, 101, 97, 110, 32]⟩ ++ dec mean
def rep4 (s : ByteArray) (atick aload awant arepl awhy : Int) : ByteArray := if statZ atick aload awant arepl awhy = true then s else s ++ ⟨#[32]⟩ ++ advS atick aload awant arepl awhy
def repS (err epoch handle cnt sum least most mean atick aload awant arepl awhy : Int) : ByteArray := if err = 0 then rep4 (rep3 (rep2 (rep1 epoch) handle) cnt sum least most mean) atick aload awant arepl awhy else ⟨#[101, 114, 114, 111, 114, 32]⟩ ++ dec err
theorem neqStat (a b c d e : Int) (W : World) : (binOp .neq 33 (.agg #[.int .i64 a, .int .i64 b, .int .i64 c, .int .i64 d, .int .i64 e]) (.agg #[.int .i64 0, .int .i64 0, .int .i64 0, .int .i64 0, .int .i64 0])).run Tryd.prog W = .ok (.bool (!statZ a b c d e)) W := by
  unfold statZ
  go_simp
  repeat' split
  all_goals simp_all
theorem neqAdv (a b c d e : Int) (W : World) : (binOp .neq 35 (.agg #[.int .i64 a, .int .i64 b, .int .i64 c, .int .i64 d, .int .i64 e]) (.agg #[.int .i64 0, .int .i64 0, .int .i64 0, .int .i64 0, .int .i64 0])).run Tryd.prog W = .ok (.bool (!statZ a b c d e)) W := by
  unfold statZ
  go_simp
  repeat' split
  all_goals simp_all
theorem rep1_size {epoch : Int} (h : I64 epoch) : (rep1 epoch).size ≤ 40 := by
  have := itoa_len h
  unfold rep1
  split
  · decide
  · rw [ByteArray.size_append, ByteArray.size_append, dec_size]
    have e1 : (⟨#[111, 107]⟩ : ByteArray).size = 2 := rfl
    have e2 : (⟨#[32, 101, 112, 111, 99, 104, 32]⟩ : ByteArray).size = 7 := rfl
    omega
theorem rep2_size {s : ByteArray} {handle : Int} (h : I64 handle) : (rep2 s handle).size ≤ s.size + 40 := by
  have := itoa_len h
  unfold rep2
  split
  · omega
  · rw [ByteArray.size_append, ByteArray.size_append, dec_size]
    have e2 : (⟨#[32, 104, 97, 110, 100, 108, 101, 32]⟩ : ByteArray).size = 8 := rfl
    omega
theorem rep3_size {s : ByteArray} {a c d e f : Int} (h1 : I64 a) (h2 : I64 c) (h3 : I64 d) (h4 : I64 e) (h5 : I64 f) : (rep3 s a c d e f).size ≤ s.size + 200 := by
  have k1 := itoa_len h1
  have k2 := itoa_len h2
  have k3 := itoa_len h3
  have k4 := itoa_len h4
  have k5 := itoa_len h5
  unfold rep3
  split
  · omega
  · simp only [ByteArray.size_append, dec_size]
    have e1 : (⟨#[32, 99, 111, 117, 110, 116, 32]⟩ : ByteArray).size = 7 := rfl
    have e2 : (⟨#[32, 115, 117, 109, 32]⟩ : ByteArray).size = 5 := rfl
    have e3 : (⟨#[32, 108, 101, 97, 115, 116, 32]⟩ : ByteArray).size = 7 := rfl
    have e4 : (⟨#[32, 109, 111, 115, 116, 32]⟩ : ByteArray).size = 6 := rfl
    have e5 : (⟨#[32, 109, 101, 97, 110, 32]⟩ : ByteArray).size = 6 := rfl
    omega
theorem advS_size {a c d e f : Int} (h1 : I64 a) (h2 : I64 c) (h3 : I64 d) (h4 : I64 e) (h5 : I64 f) : (advS a c d e f).size ≤ 200 := by
  have k1 := itoa_len h1
  have k2 := itoa_len h2
  have k3 := itoa_len h3
  have k4 := itoa_len h4
  have k5 := itoa_len h5
  rw [advS_cat]
  simp only [ByteArray.size_append, dec_size]
  have e1 : (⟨#[116, 105, 99, 107, 32]⟩ : ByteArray).size = 5 := rfl
  have e2 : (⟨#[32, 108, 111, 97, 100, 32]⟩ : ByteArray).size = 6 := rfl
  have e3 : (⟨#[32, 119, 97, 110, 116, 32]⟩ : ByteArray).size = 6 := rfl
  have e4 : (⟨#[32, 114, 101, 112, 108, 105, 99, 97, 115, 32]⟩ : ByteArray).size = 10 := rfl
  have e5 : (⟨#[32, 119, 104, 121, 32]⟩ : ByteArray).size = 5 := rfl
  omega

set_option maxRecDepth 100000 in
set_option maxHeartbeats 4000000 in
theorem rreply_err (err epoch handle cnt sum least most mean atick aload awant arepl awhy : Int) (w : World) (i0 : I64 err) (he : err ≠ 0) :
    Calls Tryd.prog 21 #[.agg #[.int .i64 err, .int .i64 epoch, .int .i64 handle, .int .i64 cnt, .int .i64 sum, .int .i64 least, .int .i64 most, .int .i64 mean, .int .i64 atick, .int .i64 aload, .int .i64 awant, .int .i64 arepl, .int .i64 awhy]] w fun e w' => e = .returned (.string (⟨#[101, 114, 114, 111, 114, 32]⟩ ++ dec err)) ∧ Below w.heap.size w w' := by
  obtain ⟨d0, hd0⟩ : ∃ d, d = dec err := ⟨_, rfl⟩
  rw [← hd0]
  obtain ⟨c0, s0⟩ := rdec_says err i0 d0 hd0
  have C0 := Lib.hid c0
  have qx : (err == 0) = false := by simpa using he
  have qx2 : decide (err = 0) = false := by simpa using he
  have qx3 : (err != 0) = true := by simpa using he
  clear hd0 c0 i0
  go_enter Tryd.func21, Tryd.ntmps21
  go_wp2_with (go_at_call 19; refine (C0.out _).mono ?_; rintro e w1 ⟨rfl, rfl⟩)
  go_ret
  exact ⟨rfl, balloc (Below.refl _ _) _⟩

set_option maxRecDepth 100000 in
set_option maxHeartbeats 8000000 in
theorem rreply_ok (epoch handle cnt sum least most mean atick aload awant arepl awhy : Int) (w : World) (i1 : I64 epoch) (i2 : I64 handle) (i3 : I64 cnt) (i4 : I64 sum) (i5 : I64 least) (i6 : I64 most) (i7 : I64 mean) (i8 : I64 atick) (i9 : I64 aload) (i10 : I64 awant) (i11 : I64 arepl) (i12 : I64 awhy) :
    Calls Tryd.prog 21 #[.agg #[.int .i64 0, .int .i64 epoch, .int .i64 handle, .int .i64 cnt, .int .i64 sum, .int .i64 least, .int .i64 most, .int .i64 mean, .int .i64 atick, .int .i64 aload, .int .i64 awant, .int .i64 arepl, .int .i64 awhy]] w fun e w' => e = .returned (.string (rep4 (rep3 (rep2 (rep1 epoch) handle) cnt sum least most mean) atick aload awant arepl awhy)) ∧ Below w.heap.size w w' := by
  obtain ⟨c1, s1⟩ := rdec_says epoch i1 (dec epoch) rfl
  have C1 := Lib.hid c1
  obtain ⟨c2, s2⟩ := rdec_says handle i2 (dec handle) rfl
  have C2 := Lib.hid c2
  obtain ⟨c3, s3⟩ := rdec_says cnt i3 (dec cnt) rfl
  have C3 := Lib.hid c3
  obtain ⟨c4, s4⟩ := rdec_says sum i4 (dec sum) rfl
  have C4 := Lib.hid c4
  obtain ⟨c5, s5⟩ := rdec_says least i5 (dec least) rfl
  have C5 := Lib.hid c5
  obtain ⟨c6, s6⟩ := rdec_says most i6 (dec most) rfl
  have C6 := Lib.hid c6
  obtain ⟨c7, s7⟩ := rdec_says mean i7 (dec mean) rfl
  have C7 := Lib.hid c7
  have z1 := rep1_size i1
  have z2 := rep2_size (s := rep1 epoch) i2
  have z3 := rep3_size (s := rep2 (rep1 epoch) handle) i3 i4 i5 i6 i7
  have z4 := advS_size i8 i9 i10 i11 i12
  have HADV := Lib.hid (fun W => radv_any atick aload awant arepl awhy W i8 i9 i10 i11 i12)
  obtain ⟨S1, h1⟩ : ∃ S, S = rep1 epoch := ⟨_, rfl⟩
  rw [← h1] at z1 z2 z3 ⊢
  obtain ⟨S2, h2⟩ : ∃ S, S = rep2 S1 handle := ⟨_, rfl⟩
  rw [← h2] at z2 z3 ⊢
  obtain ⟨S3, h3⟩ : ∃ S, S = rep3 S2 cnt sum least most mean := ⟨_, rfl⟩
  rw [← h3] at z3 ⊢
  have H1 := Lib.hid h1
  have H2 := Lib.hid h2
  have H3 := Lib.hid h3
  have hq3 := neqStat cnt sum least most mean
  have hq4 := neqAdv atick aload awant arepl awhy
  clear h1 h2 h3 c1 c2 c3 c4 c5 c6 c7 i1 i2 i3 i4 i5 i6 i7 i8 i9 i10 i11 i12
  go_enter Tryd.func21, Tryd.ntmps21
  go_upto_if 14 with fail
  refine name_world ?_
  intro W hW
  have HB := Lib.hid (show Below w.heap.size w W by rw [hW]; exact balloc (Below.refl _ _) _)
  have hx : W.heap[w.heap.size]? = some (.cells #[.int .i64 0, .int .i64 epoch, .int .i64 handle, .int .i64 cnt, .int .i64 sum, .int .i64 least, .int .i64 most, .int .i64 mean, .int .i64 atick, .int .i64 aload, .int .i64 awant, .int .i64 arepl, .int .i64 awhy] 37 (0, 0)) := by rw [hW]; exact heap_alloc_new _ _
  obtain ⟨a0, a0f, a0l, a0h⟩ := box_at (Below.refl _ _) hx
  have HX := Lib.hid a0h
  clear hW hx a0h
  go_cut [3] (fun s3 wx => s3 = .string S1 ∧ W = wx)
  case first =>
    by_cases h : epoch = 0
    · have HE := Lib.hid (show S1 = ⟨#[111, 107]⟩ by rw [H1.out]; unfold rep1; rw [if_pos h])
      clear H1 H2 H3
      subst h
      go_wp2_with fail
      go_meet
      exact ⟨by rw [HE.out], rfl⟩
    · have HE := Lib.hid (show S1 = ⟨#[111, 107]⟩ ++ ⟨#[32, 101, 112, 111, 99, 104, 32]⟩ ++ dec epoch by rw [H1.out]; unfold rep1; rw [if_neg h])
      have qx : (epoch == 0) = false := by simpa using h
      have qx2 : decide (epoch = 0) = false := by simpa using h
      have qx3 : (epoch != 0) = true := by simpa using h
      go_wp2_with (go_at_call 19; with_reducible refine (C1.out _).mono ?_; rintro e w1 ⟨rfl, rfl⟩)
      go_meet
      exact ⟨by rw [HE.out], rfl⟩
  case rest =>
    obtain ⟨rfl, rfl⟩ := hcut
    go_upto_if 23 with fail
    go_cut [3] (fun s3 wx => s3 = .string S2 ∧ W = wx)
    case first =>
      by_cases h : handle = 0
      · have HE := Lib.hid (show S2 = S1 by rw [H2.out]; unfold rep2; rw [if_pos h])
        have qx : (handle == 0) = true := by simpa using h
        go_wp2_with fail
        go_meet
        exact ⟨by rw [HE.out], rfl⟩
      · have HE := Lib.hid (show S2 = S1 ++ ⟨#[32, 104, 97, 110, 100, 108, 101, 32]⟩ ++ dec handle by rw [H2.out]; unfold rep2; rw [if_neg h])
        have qx : (handle == 0) = false := by simpa using h
        have qx2 : decide (handle = 0) = false := by simpa using h
        have qx3 : (handle != 0) = true := by simpa using h
        go_wp2_with (go_at_call 19; with_reducible refine (C2.out _).mono ?_; rintro e w1 ⟨rfl, rfl⟩)
        go_meet
        exact ⟨by rw [HE.out], rfl⟩
    case rest =>
      obtain ⟨rfl, rfl⟩ := hcut
      go_upto_if 34 with fail
      refine name_world ?_
      intro W2 hW2
      have hb2 : Below W.heap.size W W2 := by rw [hW2]; exact balloc (Below.refl _ _) _
      have hx2 : W2.heap[W.heap.size]? = some (.cells #[.int .i64 cnt, .int .i64 sum, .int .i64 least, .int .i64 most, .int .i64 mean] 33 (0, 0)) := by rw [hW2]; exact heap_alloc_new _ _
      obtain ⟨a1, a1f, a1l, a1h⟩ := box_at (Below.refl _ _) hx2
      have HX2 := Lib.hid ((hb2.block _ (Array.getElem?_eq_some_iff.1 HX.out).1).trans HX.out)
      have HB2 := Lib.hid (bthen HB.out hb2)
      clear hW2 hx2 a1h hb2 a0 a0f a0l
      go_cut [3] (fun s3 wx => s3 = .string S3 ∧ Below W2.heap.size W2 wx)
      case first =>
        cases hz : statZ cnt sum least most mean with
        | true =>
          have HE := Lib.hid (show S3 = S2 by rw [H3.out]; unfold rep3; rw [if_pos hz])
          go_wp2_with fail
          go_meet
          exact ⟨by rw [HE.out], Below.refl _ _⟩
        | false =>
          have HE := Lib.hid (show S3 = S2 ++ ⟨#[32, 99, 111, 117, 110, 116, 32]⟩ ++ dec cnt ++ ⟨#[32, 115, 117, 109, 32]⟩ ++ dec sum ++ ⟨#[32, 108, 101, 97, 115, 116, 32]⟩ ++ dec least ++ ⟨#[32, 109, 111, 115, 116, 32]⟩ ++ dec most ++ ⟨#[32, 109, 101, 97, 110, 32]⟩ ++ dec mean by rw [H3.out]; unfold rep3; rw [hz]; rfl)
          go_wp2_with fail
          go_quiet ((first
            | (go_at_call 19; with_reducible exact Calls.quiet_of_same (C3.out _))
            | (go_at_call 19; with_reducible exact Calls.quiet_of_same (C4.out _))
            | (go_at_call 19; with_reducible exact Calls.quiet_of_same (C5.out _))
            | (go_at_call 19; with_reducible exact Calls.quiet_of_same (C6.out _))
            | (go_at_call 19; with_reducible exact Calls.quiet_of_same (C7.out _))))
          go_wp2_with fail
          go_meet
          exact ⟨by rw [HE.out], below_drewN (Below.refl _ _) _⟩
      case rest =>
        obtain ⟨rfl, hbc⟩ := hcut
        obtain ⟨a2, a2f, a2l⟩ := box_cells hbc HX2.out
        have HBC := Lib.hid (bthen HB2.out hbc)
        clear hbc a1 a1f a1l
        cases hz : statZ atick aload awant arepl awhy with
        | true =>
          have HE := Lib.hid (show rep4 S3 atick aload awant arepl awhy = S3 by unfold rep4; rw [if_pos hz])
          go_wp2
          go_ret
          exact ⟨by rw [HE.out]; rfl, HBC.out⟩
        | false =>
          have HE := Lib.hid (show rep4 S3 atick aload awant arepl awhy = S3 ++ ⟨#[32]⟩ ++ advS atick aload awant arepl awhy by unfold rep4; rw [hz]; rfl)
          obtain ⟨av, hav⟩ : ∃ s, s = advS atick aload awant arepl awhy := ⟨_, rfl⟩
          rw [← hav] at HE z4 HADV
          clear hav
          go_wp2_with (go_at_call 23
                       refine (HADV.out wc).mono ?_
                       rintro e w5 ⟨rfl, hb5⟩)
          go_ret
          exact ⟨by rw [HE.out]; rfl, bthen HBC.out hb5⟩
end

end Go.Proofs.YtmndhffimlkjgaaDoor
