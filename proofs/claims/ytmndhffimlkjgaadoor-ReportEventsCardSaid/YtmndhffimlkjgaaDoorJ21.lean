/- line.Reply: a reply's line. -/
import Derived.Test.YtmndhffimlkjgaaDoorJ20
namespace Go.Proofs.YtmndhffimlkjgaaDoor

section
set_option linter.unusedSimpArgs false
set_option linter.unusedVariables false
open Go.RowKit Go.Lib

theorem joinS_app (a c : List ByteArray) (ha : a ≠ []) (hc : c ≠ []) : joinS (a ++ c) = joinS a ++ ⟨#[32]⟩ ++ joinS c := by
  apply bytes_ext
  obtain ⟨y, u, rfl⟩ : ∃ y u, c = y :: u := by cases c with | nil => exact absurd rfl hc | cons y u => exact ⟨y, u, rfl⟩
  unfold joinS Lib.join
  simp only [ByteArray.data_append, Array.toList_append, List.map_append, List.map_cons]
  induction a with
  | nil => exact absurd rfl ha
  | cons x t ih =>
    cases t with
    | nil => simp [List.intercalate]
    | cons z t =>
      have := ih (by simp)
      simp [List.intercalate] at this ⊢
      exact this
def repW1 (epoch : Int) : List ByteArray := if epoch = 0 then [(⟨#[111, 107]⟩ : ByteArray)] else [(⟨#[111, 107]⟩ : ByteArray)] ++ [(⟨#[101, 112, 111, 99, 104]⟩ : ByteArray), dec epoch]
def repW2 (l : List ByteArray) (handle : Int) : List ByteArray := if handle = 0 then l else l ++ [(⟨#[104, 97, 110, 100, 108, 101]⟩ : ByteArray), dec handle]
def repW3 (l : List ByteArray) (cnt sum least most mean : Int) : List ByteArray := if statZ cnt sum least most mean = true then l else l ++ [(⟨#[99, 111, 117, 110, 116]⟩ : ByteArray), dec cnt, (⟨#[115, 117, 109]⟩ : ByteArray), dec sum, (⟨#[108, 101, 97, 115, 116]⟩ : ByteArray), dec least, (⟨#[109, 111, 115, 116]⟩ : ByteArray), dec most, (⟨#[109, 101, 97, 110]⟩ : ByteArray), dec mean]
def repW4 (l : List ByteArray) (atick aload awant arepl awhy : Int) : List ByteArray := if statZ atick aload awant arepl awhy = true then l else l ++ [advS atick aload awant arepl awhy]
theorem repW1_ne (epoch : Int) : repW1 epoch ≠ [] := by unfold repW1; split <;> simp
theorem repW2_ne {l : List ByteArray} (h : l ≠ []) (handle : Int) : repW2 l handle ≠ [] := by unfold repW2; split <;> simp [h]
theorem repW3_ne {l : List ByteArray} (h : l ≠ []) (a c d e f : Int) : repW3 l a c d e f ≠ [] := by unfold repW3; split <;> simp [h]
theorem repW1_join (epoch : Int) : joinS (repW1 epoch) = rep1 epoch := by
  unfold repW1 rep1
  split <;> (apply bytes_ext; simp [joinS, Lib.join, ByteArray.data_append, List.intercalate])
theorem repW2_join {l : List ByteArray} (h : l ≠ []) (handle : Int) : joinS (repW2 l handle) = rep2 (joinS l) handle := by
  unfold repW2 rep2
  split
  · rfl
  · rw [joinS_app _ _ h (by simp)]
    apply bytes_ext
    simp [joinS, Lib.join, ByteArray.data_append, List.intercalate]
theorem repW3_join {l : List ByteArray} (h : l ≠ []) (a c d e f : Int) : joinS (repW3 l a c d e f) = rep3 (joinS l) a c d e f := by
  unfold repW3 rep3
  split
  · rfl
  · rw [joinS_app _ _ h (by simp)]
    apply bytes_ext
    simp [joinS, Lib.join, ByteArray.data_append, List.intercalate]
theorem repW4_join {l : List ByteArray} (h : l ≠ []) (a c d e f : Int) : joinS (repW4 l a c d e f) = rep4 (joinS l) a c d e f := by
  unfold repW4 rep4
  split
  · rfl
  · rw [joinS_app _ _ h (by simp)]
    apply bytes_ext
    simp [joinS, Lib.join, ByteArray.data_append, List.intercalate]
def FineW (l : List ByteArray) (n : Nat) : Prop := l.length ≤ n ∧ ∀ s ∈ l, s.size ≤ 1000
theorem FineW.app {l m : List ByteArray} {n k : Nat} (h : FineW l n) (h2 : FineW m k) : FineW (l ++ m) (n + k) :=
  ⟨by rw [List.length_append]; have := h.1; have := h2.1; omega, fun s hs => (List.mem_append.1 hs).elim (h.2 s) (h2.2 s)⟩
theorem FineW.up {l : List ByteArray} {n k : Nat} (h : FineW l n) (hk : n ≤ k) : FineW l k := ⟨Nat.le_trans h.1 hk, h.2⟩
theorem dec_1000 {n : Int} (h : I64 n) : (dec n).size ≤ 1000 := by rw [dec_size]; have := itoa_len h; omega
theorem FineW.nil : FineW [] 0 := ⟨Nat.le_refl _, fun s hs => by cases hs⟩
theorem FineW.cons {l : List ByteArray} {n : Nat} {s : ByteArray} (hs : s.size ≤ 1000) (h : FineW l n) : FineW (s :: l) (n + 1) :=
  ⟨by rw [List.length_cons]; have := h.1; omega, fun t ht => (List.mem_cons.1 ht).elim (fun e => e ▸ hs) (h.2 t)⟩
theorem repW1_fine {epoch : Int} (h : I64 epoch) : FineW (repW1 epoch) 3 := by
  unfold repW1
  split
  · exact (FineW.cons (by decide) FineW.nil).up (by decide)
  · exact (FineW.cons (by decide) FineW.nil).app (FineW.cons (by decide) (FineW.cons (dec_1000 h) FineW.nil))
theorem repW2_fine {l : List ByteArray} {n : Nat} (hl : FineW l n) {handle : Int} (h : I64 handle) : FineW (repW2 l handle) (n + 2) := by
  unfold repW2
  split
  · exact hl.up (by omega)
  · exact hl.app (FineW.cons (by decide) (FineW.cons (dec_1000 h) FineW.nil))
theorem repW3_fine {l : List ByteArray} {n : Nat} (hl : FineW l n) {a c d e f : Int} (h1 : I64 a) (h2 : I64 c) (h3 : I64 d) (h4 : I64 e) (h5 : I64 f) : FineW (repW3 l a c d e f) (n + 10) := by
  unfold repW3
  split
  · exact hl.up (by omega)
  · exact hl.app (FineW.cons (by decide) (FineW.cons (dec_1000 h1) (FineW.cons (by decide) (FineW.cons (dec_1000 h2) (FineW.cons (by decide) (FineW.cons (dec_1000 h3) (FineW.cons (by decide) (FineW.cons (dec_1000 h4) (FineW.cons (by decide) (FineW.cons (dec_1000 h5) FineW.nil))))))))))
theorem repW4_fine {l : List ByteArray} {n : Nat} (hl : FineW l n) {a c d e f : Int} (h1 : I64 a) (h2 : I64 c) (h3 : I64 d) (h4 : I64 e) (h5 : I64 f) : FineW (repW4 l a c d e f) (n + 1) := by
  unfold repW4
  split
  · exact hl.up (by omega)
  · exact hl.app (FineW.cons (by have := advS_size h1 h2 h3 h4 h5; omega) FineW.nil)


set_option maxRecDepth 100000 in
set_option maxHeartbeats 4000000 in
theorem lreply_err (err epoch handle cnt sum least most mean atick aload awant arepl awhy : Int) (w : World) (ht : Tab w) (i0 : I64 err) (he : err ≠ 0) :
    Calls Tryd.prog 15 #[.agg #[.int .i64 err, .int .i64 epoch, .int .i64 handle, .int .i64 cnt, .int .i64 sum, .int .i64 least, .int .i64 most, .int .i64 mean, .int .i64 atick, .int .i64 aload, .int .i64 awant, .int .i64 arepl, .int .i64 awhy]] w fun e w' => e = .returned (.string (⟨#[101, 114, 114, 111, 114, 32]⟩ ++ dec err)) ∧ Below w.heap.size w w' := by
  have C0 := Lib.hid (fun W h => number_any err i0 W (ht.below (w' := W) h))
  obtain ⟨d0, hd0⟩ : ∃ d, d = dec err := ⟨_, rfl⟩
  change Hid (∀ W (h : Below w.heap.size w W), Calls Tryd.prog 28 #[.int .i64 err] W fun e w' => e = .returned (.string (dec err)) ∧ Below W.heap.size W w') at C0
  have s0 : d0.size ≤ 21 := by rw [hd0, dec_size]; exact itoa_len i0
  rw [← hd0] at C0 ⊢
  have qx : (err == 0) = false := by simpa using he
  have qx2 : decide (err = 0) = false := by simpa using he
  have qx3 : (err != 0) = true := by simpa using he
  clear hd0 i0 ht
  go_enter Tryd.func15, Tryd.ntmps15
  go_wp2_with (go_at_call 28; refine (C0.out _ (balloc (Below.refl _ _) _)).mono ?_; rintro e w1 ⟨rfl, hb1⟩)
  go_ret
  exact ⟨rfl, bthen (balloc (Below.refl _ _) _) hb1⟩

set_option maxRecDepth 100000 in
set_option maxHeartbeats 8000000 in
theorem lreply_ok (epoch handle cnt sum least most mean atick aload awant arepl awhy : Int) (w : World) (ht : Tab w) (i1 : I64 epoch) (i2 : I64 handle) (i3 : I64 cnt) (i4 : I64 sum) (i5 : I64 least) (i6 : I64 most) (i7 : I64 mean) (i8 : I64 atick) (i9 : I64 aload) (i10 : I64 awant) (i11 : I64 arepl) (i12 : I64 awhy) :
    Calls Tryd.prog 15 #[.agg #[.int .i64 0, .int .i64 epoch, .int .i64 handle, .int .i64 cnt, .int .i64 sum, .int .i64 least, .int .i64 most, .int .i64 mean, .int .i64 atick, .int .i64 aload, .int .i64 awant, .int .i64 arepl, .int .i64 awhy]] w fun e w' => e = .returned (.string (rep4 (rep3 (rep2 (rep1 epoch) handle) cnt sum least most mean) atick aload awant arepl awhy)) ∧ Below w.heap.size w w' := by
  rw [← repW1_join, ← repW2_join (repW1_ne _), ← repW3_join (repW2_ne (repW1_ne _) _), ← repW4_join (repW3_ne (repW2_ne (repW1_ne _) _) _ _ _ _ _)]
  have C1 := Lib.hid (show ∀ W (h : Below w.heap.size w W), Calls Tryd.prog 28 #[.int .i64 epoch] W fun e w' => e = .returned (.string (dec epoch)) ∧ Below W.heap.size W w' from fun W h => number_any epoch i1 W (ht.below (w' := W) h))
  have C2 := Lib.hid (show ∀ W (h : Below w.heap.size w W), Calls Tryd.prog 28 #[.int .i64 handle] W fun e w' => e = .returned (.string (dec handle)) ∧ Below W.heap.size W w' from fun W h => number_any handle i2 W (ht.below (w' := W) h))
  have C3 := Lib.hid (show ∀ W (h : Below w.heap.size w W), Calls Tryd.prog 28 #[.int .i64 cnt] W fun e w' => e = .returned (.string (dec cnt)) ∧ Below W.heap.size W w' from fun W h => number_any cnt i3 W (ht.below (w' := W) h))
  have C4 := Lib.hid (show ∀ W (h : Below w.heap.size w W), Calls Tryd.prog 28 #[.int .i64 sum] W fun e w' => e = .returned (.string (dec sum)) ∧ Below W.heap.size W w' from fun W h => number_any sum i4 W (ht.below (w' := W) h))
  have C5 := Lib.hid (show ∀ W (h : Below w.heap.size w W), Calls Tryd.prog 28 #[.int .i64 least] W fun e w' => e = .returned (.string (dec least)) ∧ Below W.heap.size W w' from fun W h => number_any least i5 W (ht.below (w' := W) h))
  have C6 := Lib.hid (show ∀ W (h : Below w.heap.size w W), Calls Tryd.prog 28 #[.int .i64 most] W fun e w' => e = .returned (.string (dec most)) ∧ Below W.heap.size W w' from fun W h => number_any most i6 W (ht.below (w' := W) h))
  have C7 := Lib.hid (show ∀ W (h : Below w.heap.size w W), Calls Tryd.prog 28 #[.int .i64 mean] W fun e w' => e = .returned (.string (dec mean)) ∧ Below W.heap.size W w' from fun W h => number_any mean i7 W (ht.below (w' := W) h))
  have f1 := repW1_fine i1
  have f2 := repW2_fine f1 i2
  have f3 := repW3_fine f2 i3 i4 i5 i6 i7
  have f4 := repW4_fine f3 i8 i9 i10 i11 i12
  obtain ⟨L1, h1⟩ : ∃ L, L = repW1 epoch := ⟨_, rfl⟩
  have h1n : L1 ≠ [] := by rw [h1]; exact repW1_ne _
  rw [← h1] at f1 f2 f3 f4 ⊢
  obtain ⟨L2, h2⟩ : ∃ L, L = repW2 L1 handle := ⟨_, rfl⟩
  have h2n : L2 ≠ [] := by rw [h2]; exact repW2_ne h1n _
  rw [← h2] at f2 f3 f4 ⊢
  obtain ⟨L3, h3⟩ : ∃ L, L = repW3 L2 cnt sum least most mean := ⟨_, rfl⟩
  rw [← h3] at f3 f4 ⊢
  have h3n : L3 ≠ [] := by rw [h3]; exact repW3_ne h2n _ _ _ _ _
  obtain ⟨L4, h4⟩ : ∃ L, L = repW4 L3 atick aload awant arepl awhy := ⟨_, rfl⟩
  rw [← h4] at f4 ⊢
  have h4n : L4 ≠ [] := by rw [h4]; unfold repW4; split <;> simp [h3n]
  have H1 := Lib.hid h1
  have H2 := Lib.hid h2
  have H3 := Lib.hid h3
  have H4 := Lib.hid h4
  have F1 := Lib.hid f1
  have F2 := Lib.hid f2
  have F3 := Lib.hid f3
  have F4 := Lib.hid f4
  have N4 := Lib.hid h4n
  clear h1 h2 h3 h4 f1 f2 f3 f4 h1n h2n h3n h4n
  have HADV := Lib.hid (fun W h => adv_any atick aload awant arepl awhy W (ht.below (w' := W) h) i8 i9 i10 i11 i12)
  have hq3 := neqStat cnt sum least most mean
  have hq4 := neqAdv atick aload awant arepl awhy
  go_enter Tryd.func15, Tryd.ntmps15
  go_upto_if 15 with fail
  refine name_world ?_
  intro W hW
  have hbase : Below w.heap.size w W := by rw [hW]; exact balloc (balloc (Below.refl _ _) _) _
  have hx : W.heap[w.heap.size]? = some (.cells #[.int .i64 0, .int .i64 epoch, .int .i64 handle, .int .i64 cnt, .int .i64 sum, .int .i64 least, .int .i64 most, .int .i64 mean, .int .i64 atick, .int .i64 aload, .int .i64 awant, .int .i64 arepl, .int .i64 awhy] 37 (0, 0)) := by rw [hW]; exact (Below.heap_alloc _ _ _ (by simp)).trans (heap_alloc_new _ _)
  have ho0 : OwnL strC 9 1 (w.heap.size + 1) W (.slice (some ⟨w.heap.size + 1, 0, none⟩) 1 1) [(⟨#[111, 107]⟩ : ByteArray)] := by
    rw [hW]
    exact OwnL.lits (f := strC) (e := 9) (n := 1) (w.heap.size + 1) (w.alloc _) [(⟨#[111, 107]⟩ : ByteArray)] _ (w.heap.size + 1) 1 (by simp) (Nat.le_refl _) rfl (by decide) rfl rfl
  have HB := Lib.hid hbase
  have HO0 := Lib.hid ho0
  have hWs : w.heap.size + 1 < W.heap.size := by rw [hW]; simp
  obtain ⟨a0, a0f, a0l, a0h⟩ := box_at (Below.refl _ _) hx
  have HX := Lib.hid a0h
  clear hW hx ho0 hbase a0h i1 i2 i3 i4 i5 i6 i7 i8 i9 i10 i11 i12 ht
  go_cut [3] (fun s3 wx => OwnL strC 9 1 (w.heap.size + 1) wx s3 L1 ∧ Below (w.heap.size + 1) W wx)
  case first =>
    by_cases h : epoch = 0
    · have HE := Lib.hid (show L1 = [(⟨#[111, 107]⟩ : ByteArray)] by rw [H1.out]; unfold repW1; rw [if_pos h])
      have qx : (epoch != 0) = false := by simpa using h
      clear h
      go_wp2_with fail
      go_meet
      exact ⟨by rw [HE.out]; exact HO0.out, Below.refl _ _⟩
    · have HE := Lib.hid (show L1 = [(⟨#[111, 107]⟩ : ByteArray)] ++ [(⟨#[101, 112, 111, 99, 104]⟩ : ByteArray), dec epoch] by rw [H1.out]; unfold repW1; rw [if_neg h])
      have qx : (epoch == 0) = false := by simpa using h
      have qx2 : decide (epoch = 0) = false := by simpa using h
      have qx3 : (epoch != 0) = true := by simpa using h
      go_wp2_with (first
        | (go_at_call 28
           with_reducible refine (C1.out _ HB.out).mono ?_
           rintro e n1 ⟨rfl, hb1⟩
           have HN1 := Lib.hid hb1
           clear hb1)
        | (at_builtin
           refine wpList_appendL eStr (by rfl) (by rfl) (w.heap.size + 1) [(⟨#[111, 107]⟩ : ByteArray)] [(⟨#[101, 112, 111, 99, 104]⟩ : ByteArray), dec epoch] (.slice (some ⟨w.heap.size + 1, 0, none⟩) 1 1) _ (by rfl) (by rfl) ((HO0.out.below HN1.out).below (balloc (Below.refl _ _) _)) ((OwnL.lits (f := strC) (e := 9) (n := 1) n1.heap.size n1 [(⟨#[101, 112, 111, 99, 104]⟩ : ByteArray), dec epoch] _ n1.heap.size 2 rfl (Nat.le_refl _) rfl (by decide) rfl rfl).row eStr) (by simp) (by have := HN1.out.size; simp; omega) ?_
           intro out A c n2 hout hown hg hor
           have hb : Below (w.heap.size + 1) W n2 := ((HN1.out.mono (Nat.le_of_lt hWs)).alloc (by have := HN1.out.size; omega) _).trans (grown_own hg (HO0.out.below HN1.out) (by have := HN1.out.size; simp; omega))
           have HO := Lib.hid hown
           have HOU := Lib.hid hout
           have HBN := Lib.hid hb
           clear hown hout hg hor hb))
      go_meet
      exact ⟨by have := HO.out; rw [HE.out, ← HOU.out]; exact this, HBN.out⟩
  case rest =>
    obtain ⟨ho1, hbc⟩ := hcut
    obtain ⟨A1, k1, rfl⟩ := ho1.form
    rename World => v1
    have hx1 := (hbc.block w.heap.size (Nat.lt_succ_self _)).trans HX.out
    have hs1 : w.heap.size + 1 < v1.heap.size := Nat.lt_of_lt_of_le hWs hbc.size
    have HB1 := Lib.hid (HB.out.trans (hbc.mono (Nat.le_succ _)))
    have HO1 := Lib.hid ho1
    obtain ⟨b0, b0f, b0l, b0h⟩ := box_at (Below.refl _ _) hx1
    have HX1 := Lib.hid b0h
    clear ho1 hbc hx1 b0h a0 a0f a0l HX HO0 HB hWs
    go_upto_if 24 with fail
    go_cut [3] (fun s3 wx => OwnL strC 9 1 (w.heap.size + 1) wx s3 L2 ∧ Below (w.heap.size + 1) v1 wx)
    case first =>
      by_cases h : handle = 0
      · have HE := Lib.hid (show L2 = L1 by rw [H2.out]; unfold repW2; rw [if_pos h])
        have qx : (handle != 0) = false := by simpa using h
        clear h
        go_wp2_with fail
        go_meet
        exact ⟨by rw [HE.out]; exact HO1.out, Below.refl _ _⟩
      · have HE := Lib.hid (show L2 = L1 ++ [(⟨#[104, 97, 110, 100, 108, 101]⟩ : ByteArray), dec handle] by rw [H2.out]; unfold repW2; rw [if_neg h])
        have qx : (handle == 0) = false := by simpa using h
        have qx2 : decide (handle = 0) = false := by simpa using h
        have qx3 : (handle != 0) = true := by simpa using h
        go_wp2_with (first
          | (go_at_call 28
             with_reducible refine (C2.out _ HB1.out).mono ?_
             rintro e n1 ⟨rfl, hb1⟩
             have HN1 := Lib.hid hb1
             clear hb1)
          | (at_builtin
             refine wpList_appendL eStr (by rfl) (by rfl) (w.heap.size + 1) L1 [(⟨#[104, 97, 110, 100, 108, 101]⟩ : ByteArray), dec handle] (.slice A1 L1.length k1) _ (by rfl) (by rfl) ((HO1.out.below HN1.out).below (balloc (Below.refl _ _) _)) ((OwnL.lits (f := strC) (e := 9) (n := 1) n1.heap.size n1 [(⟨#[104, 97, 110, 100, 108, 101]⟩ : ByteArray), dec handle] _ n1.heap.size 2 rfl (Nat.le_refl _) rfl (by decide) rfl rfl).row eStr) (by have := F1.out.1; simp; omega) (by have := HN1.out.size; simp; omega) ?_
             intro out A c n2 hout hown hg hor
             have hb : Below (w.heap.size + 1) v1 n2 := ((HN1.out.mono (Nat.le_of_lt hs1)).alloc (by have := HN1.out.size; omega) _).trans (grown_own hg (HO1.out.below HN1.out) (by have := HN1.out.size; simp; omega))
             have HO := Lib.hid hown
             have HOU := Lib.hid hout
             have HBN := Lib.hid hb
             clear hown hout hg hor hb))
        go_meet
        exact ⟨by have := HO.out; rw [HE.out, ← HOU.out]; exact this, HBN.out⟩
    case rest =>
      obtain ⟨ho2, hbc⟩ := hcut
      obtain ⟨A2, k2, rfl⟩ := ho2.form
      rename World => v2
      have hx2 := (hbc.block w.heap.size (Nat.lt_succ_self _)).trans HX1.out
      have hs2 : w.heap.size + 1 < v2.heap.size := Nat.lt_of_lt_of_le hs1 hbc.size
      have HB2 := Lib.hid (HB1.out.trans (hbc.mono (Nat.le_succ _)))
      have HO2 := Lib.hid ho2
      obtain ⟨e0, e0f, e0l, e0h⟩ := box_at (Below.refl _ _) hx2
      have HX2 := Lib.hid e0h
      clear ho2 hbc hx2 e0h b0 b0f b0l HX1 HO1 HB1 hs1
      go_upto_if 35 with fail
      refine name_world ?_
      intro V hV
      have hbv : Below v2.heap.size v2 V := by rw [hV]; exact balloc (Below.refl _ _) _
      have hxv : V.heap[v2.heap.size]? = some (.cells #[.int .i64 cnt, .int .i64 sum, .int .i64 least, .int .i64 most, .int .i64 mean] 33 (0, 0)) := by rw [hV]; exact heap_alloc_new _ _
      obtain ⟨f0, f0f, f0l, f0h⟩ := box_at (Below.refl _ _) hxv
      have HXV := Lib.hid f0h
      have HXB := Lib.hid ((hbv.block _ (Array.getElem?_eq_some_iff.1 HX2.out).1).trans HX2.out)
      have HBV := Lib.hid (bthen HB2.out hbv)
      have HOV := Lib.hid (HO2.out.below hbv)
      have hsv : w.heap.size + 1 < V.heap.size := Nat.lt_of_lt_of_le hs2 hbv.size
      have HLO := Lib.hid (fun r (hr : (Value.slice A2 L2.length k2).ownBlock = some r) => (HO2.out.lt hr).2)
      clear hV hbv hxv f0h e0 e0f e0l HX2 HO2 HB2 hs2
      go_cut [3] (fun s3 wx => OwnL strC 9 1 (w.heap.size + 1) wx s3 L3 ∧ Below (w.heap.size + 1) V wx)
      case first =>
        cases hz : statZ cnt sum least most mean with
        | true =>
          have HE := Lib.hid (show L3 = L2 by rw [H3.out]; unfold repW3; rw [if_pos hz])
          go_wp2_with fail
          go_meet
          exact ⟨by rw [HE.out]; exact HOV.out, Below.refl _ _⟩
        | false =>
          have HE := Lib.hid (show L3 = L2 ++ [(⟨#[99, 111, 117, 110, 116]⟩ : ByteArray), dec cnt, (⟨#[115, 117, 109]⟩ : ByteArray), dec sum, (⟨#[108, 101, 97, 115, 116]⟩ : ByteArray), dec least, (⟨#[109, 111, 115, 116]⟩ : ByteArray), dec most, (⟨#[109, 101, 97, 110]⟩ : ByteArray), dec mean] by rw [H3.out]; unfold repW3; rw [hz]; rfl)
          go_wp2_with fail
          refine wp_region_held_drew (S := (fun U : World => U.heap[v2.heap.size]? = some (.cells #[.int .i64 cnt, .int .i64 sum, .int .i64 least, .int .i64 most, .int .i64 mean] 33 (0, 0)))) (by kernel_rfl) ?hS1 (fun hHeld => ?_)
          case hS1 => first | with_reducible exact HXA.out | with_reducible exact HXV.out | exact HXV.out | exact (HN0.out.block _ (Array.getElem?_eq_some_iff.1 HXV.out).1).trans HXV.out | exact (HN1.out.block _ (Array.getElem?_eq_some_iff.1 HXV.out).1).trans HXV.out | exact (HN2.out.block _ (Array.getElem?_eq_some_iff.1 HXV.out).1).trans HXV.out | exact (HN3.out.block _ (Array.getElem?_eq_some_iff.1 HXV.out).1).trans HXV.out | exact (HN4.out.block _ (Array.getElem?_eq_some_iff.1 HXV.out).1).trans HXV.out | exact (Below.heap_alloc _ _ _ (by have := HN4.out.size; have := (Array.getElem?_eq_some_iff.1 HXV.out).1; omega)).trans ((HN4.out.block _ (Array.getElem?_eq_some_iff.1 HXV.out).1).trans HXV.out)
          refine wpAnyH_take (i := 0) (v := ?v2) rfl (by kernel_rfl) (by kernel_rfl) (by kernel_rfl) (fun _ _ _ h => h) (Or.inl ⟨by rfl, ?hy2⟩) (by assumption) ?_
          case hy2 =>
            intro w' hSw
            (try dsimp only at hSw)
            go_simp
            try (with_reducible rfl)
          try simp only [Act.put, List.getElem_toArray, List.getElem_cons_succ, List.getElem_cons_zero, List.setIfInBounds_toArray, List.set_cons_zero, List.set_cons_succ]
          refine wpAnyH_take (i := 1) (v := ?v3) rfl (by kernel_rfl) (by kernel_rfl) (by kernel_rfl) (fun _ _ _ h => h) (Or.inl ⟨by rfl, ?hy3⟩) (by assumption) ?_
          case hy3 =>
            intro w' hSw
            (try dsimp only at hSw)
            go_simp
            try (with_reducible rfl)
          try simp only [Act.put, List.getElem_toArray, List.getElem_cons_succ, List.getElem_cons_zero, List.setIfInBounds_toArray, List.set_cons_zero, List.set_cons_succ]
          refine wpAnyH_take (i := 2) (v := ?v4) rfl (by kernel_rfl) (by kernel_rfl) (by kernel_rfl) (fun _ _ _ h => h) (Or.inl ⟨by rfl, ?hy4⟩) (by assumption) ?_
          case hy4 =>
            intro w' hSw
            (try dsimp only at hSw)
            have q0 := (box_cells (Below.refl _ _) hSw).1
            go_simp
            try (with_reducible rfl)
          try simp only [Act.put, List.getElem_toArray, List.getElem_cons_succ, List.getElem_cons_zero, List.setIfInBounds_toArray, List.set_cons_zero, List.set_cons_succ]
          refine wpAnyH_take (i := 4) (v := ?v5) rfl (by kernel_rfl) (by kernel_rfl) (by kernel_rfl) (fun _ _ _ h => h) (Or.inl ⟨by rfl, ?hy5⟩) (by assumption) ?_
          case hy5 =>
            intro w' hSw
            (try dsimp only at hSw)
            go_simp
            try (with_reducible rfl)
          try simp only [Act.put, List.getElem_toArray, List.getElem_cons_succ, List.getElem_cons_zero, List.setIfInBounds_toArray, List.set_cons_zero, List.set_cons_succ]
          refine wpAnyH_take (i := 5) (v := ?v6) rfl (by kernel_rfl) (by kernel_rfl) (by kernel_rfl) (fun _ _ _ h => h) (Or.inl ⟨by rfl, ?hy6⟩) (by assumption) ?_
          case hy6 =>
            intro w' hSw
            (try dsimp only at hSw)
            have q0 := (box_cells (Below.refl _ _) hSw).1
            go_simp
            try (with_reducible rfl)
          try simp only [Act.put, List.getElem_toArray, List.getElem_cons_succ, List.getElem_cons_zero, List.setIfInBounds_toArray, List.set_cons_zero, List.set_cons_succ]
          refine wpAnyH_take (i := 7) (v := ?v7) rfl (by kernel_rfl) (by kernel_rfl) (by kernel_rfl) (fun _ _ _ h => h) (Or.inl ⟨by rfl, ?hy7⟩) (by assumption) ?_
          case hy7 =>
            intro w' hSw
            (try dsimp only at hSw)
            go_simp
            try (with_reducible rfl)
          try simp only [Act.put, List.getElem_toArray, List.getElem_cons_succ, List.getElem_cons_zero, List.setIfInBounds_toArray, List.set_cons_zero, List.set_cons_succ]
          refine wpAnyH_take (i := 8) (v := ?v8) rfl (by kernel_rfl) (by kernel_rfl) (by kernel_rfl) (fun _ _ _ h => h) (Or.inl ⟨by rfl, ?hy8⟩) (by assumption) ?_
          case hy8 =>
            intro w' hSw
            (try dsimp only at hSw)
            have q0 := (box_cells (Below.refl _ _) hSw).1
            go_simp
            try (with_reducible rfl)
          try simp only [Act.put, List.getElem_toArray, List.getElem_cons_succ, List.getElem_cons_zero, List.setIfInBounds_toArray, List.set_cons_zero, List.set_cons_succ]
          refine wpAnyH_take (i := 10) (v := ?v9) rfl (by kernel_rfl) (by kernel_rfl) (by kernel_rfl) (fun _ _ _ h => h) (Or.inl ⟨by rfl, ?hy9⟩) (by assumption) ?_
          case hy9 =>
            intro w' hSw
            (try dsimp only at hSw)
            go_simp
            try (with_reducible rfl)
          try simp only [Act.put, List.getElem_toArray, List.getElem_cons_succ, List.getElem_cons_zero, List.setIfInBounds_toArray, List.set_cons_zero, List.set_cons_succ]
          refine wpAnyH_take (i := 11) (v := ?v10) rfl (by kernel_rfl) (by kernel_rfl) (by kernel_rfl) (fun _ _ _ h => h) (Or.inl ⟨by rfl, ?hy10⟩) (by assumption) ?_
          case hy10 =>
            intro w' hSw
            (try dsimp only at hSw)
            have q0 := (box_cells (Below.refl _ _) hSw).1
            go_simp
            try (with_reducible rfl)
          try simp only [Act.put, List.getElem_toArray, List.getElem_cons_succ, List.getElem_cons_zero, List.setIfInBounds_toArray, List.set_cons_zero, List.set_cons_succ]
          refine wpAnyH_take (i := 13) (v := ?v11) rfl (by kernel_rfl) (by kernel_rfl) (by kernel_rfl) (fun _ _ _ h => h) (Or.inl ⟨by rfl, ?hy11⟩) (by assumption) ?_
          case hy11 =>
            intro w' hSw
            (try dsimp only at hSw)
            go_simp
            try (with_reducible rfl)
          try simp only [Act.put, List.getElem_toArray, List.getElem_cons_succ, List.getElem_cons_zero, List.setIfInBounds_toArray, List.set_cons_zero, List.set_cons_succ]
          refine wpAnyH_take (i := 14) (v := ?v12) rfl (by kernel_rfl) (by kernel_rfl) (by kernel_rfl) (fun _ _ _ h => h) (Or.inl ⟨by rfl, ?hy12⟩) (by assumption) ?_
          case hy12 =>
            intro w' hSw
            (try dsimp only at hSw)
            have q0 := (box_cells (Below.refl _ _) hSw).1
            go_simp
            try (with_reducible rfl)
          try simp only [Act.put, List.getElem_toArray, List.getElem_cons_succ, List.getElem_cons_zero, List.setIfInBounds_toArray, List.set_cons_zero, List.set_cons_succ]
          refine wpAnyH_ready (rs := [3]) (by kernel_rfl) (by simp) ?_
          refine AllReadyH.cons rfl (fun K hK => ?_) AllReadyH.nil
          go_simp
          go_at_call 28
          refine calls_named ?_
          intro W2 hW2
          have hb2 : Below V.heap.size V W2 := by rw [hW2]; first | exact Below.refl _ _ | exact (Below.refl _ _).drew
          clear hW2
          with_reducible refine (C3.out _ (bthen HBV.out hb2)).mono ?_
          rintro e n0 ⟨rfl, hb3⟩
          have HN0 := Lib.hid (bthen hb2 hb3)
          clear hb2 hb3
          try go_simp
          refine hK.out _ _ ?hS13 (fun hHeld2 => ?_)
          case hS13 => first | with_reducible exact HXA.out | with_reducible exact HXV.out | exact HXV.out | exact (HN0.out.block _ (Array.getElem?_eq_some_iff.1 HXV.out).1).trans HXV.out | exact (HN1.out.block _ (Array.getElem?_eq_some_iff.1 HXV.out).1).trans HXV.out | exact (HN2.out.block _ (Array.getElem?_eq_some_iff.1 HXV.out).1).trans HXV.out | exact (HN3.out.block _ (Array.getElem?_eq_some_iff.1 HXV.out).1).trans HXV.out | exact (HN4.out.block _ (Array.getElem?_eq_some_iff.1 HXV.out).1).trans HXV.out | exact (Below.heap_alloc _ _ _ (by have := HN4.out.size; have := (Array.getElem?_eq_some_iff.1 HXV.out).1; omega)).trans ((HN4.out.block _ (Array.getElem?_eq_some_iff.1 HXV.out).1).trans HXV.out)
          clear hK K hHeld
          have hHeld := hHeld2
          clear hHeld2
          try simp only [Act.put, List.getElem_toArray, List.getElem_cons_succ, List.getElem_cons_zero, List.setIfInBounds_toArray, List.set_cons_zero, List.set_cons_succ]
          refine wpAnyH_ready (rs := [6]) (by kernel_rfl) (by simp) ?_
          refine AllReadyH.cons rfl (fun K hK => ?_) AllReadyH.nil
          go_simp
          go_at_call 28
          refine calls_named ?_
          intro W2 hW2
          have hb2 : Below V.heap.size V W2 := by rw [hW2]; first | exact Below.refl _ _ | exact (Below.refl _ _).drew | exact HN0.out
          clear hW2
          with_reducible refine (C4.out _ (bthen HBV.out hb2)).mono ?_
          rintro e n1 ⟨rfl, hb3⟩
          have HN1 := Lib.hid (bthen hb2 hb3)
          clear hb2 hb3
          try go_simp
          refine hK.out _ _ ?hS14 (fun hHeld2 => ?_)
          case hS14 => first | with_reducible exact HXA.out | with_reducible exact HXV.out | exact HXV.out | exact (HN0.out.block _ (Array.getElem?_eq_some_iff.1 HXV.out).1).trans HXV.out | exact (HN1.out.block _ (Array.getElem?_eq_some_iff.1 HXV.out).1).trans HXV.out | exact (HN2.out.block _ (Array.getElem?_eq_some_iff.1 HXV.out).1).trans HXV.out | exact (HN3.out.block _ (Array.getElem?_eq_some_iff.1 HXV.out).1).trans HXV.out | exact (HN4.out.block _ (Array.getElem?_eq_some_iff.1 HXV.out).1).trans HXV.out | exact (Below.heap_alloc _ _ _ (by have := HN4.out.size; have := (Array.getElem?_eq_some_iff.1 HXV.out).1; omega)).trans ((HN4.out.block _ (Array.getElem?_eq_some_iff.1 HXV.out).1).trans HXV.out)
          clear hK K hHeld
          have hHeld := hHeld2
          clear hHeld2
          try simp only [Act.put, List.getElem_toArray, List.getElem_cons_succ, List.getElem_cons_zero, List.setIfInBounds_toArray, List.set_cons_zero, List.set_cons_succ]
          refine wpAnyH_ready (rs := [9]) (by kernel_rfl) (by simp) ?_
          refine AllReadyH.cons rfl (fun K hK => ?_) AllReadyH.nil
          go_simp
          go_at_call 28
          refine calls_named ?_
          intro W2 hW2
          have hb2 : Below V.heap.size V W2 := by rw [hW2]; first | exact Below.refl _ _ | exact (Below.refl _ _).drew | exact HN1.out
          clear hW2
          with_reducible refine (C5.out _ (bthen HBV.out hb2)).mono ?_
          rintro e n2 ⟨rfl, hb3⟩
          have HN2 := Lib.hid (bthen hb2 hb3)
          clear hb2 hb3
          try go_simp
          refine hK.out _ _ ?hS15 (fun hHeld2 => ?_)
          case hS15 => first | with_reducible exact HXA.out | with_reducible exact HXV.out | exact HXV.out | exact (HN0.out.block _ (Array.getElem?_eq_some_iff.1 HXV.out).1).trans HXV.out | exact (HN1.out.block _ (Array.getElem?_eq_some_iff.1 HXV.out).1).trans HXV.out | exact (HN2.out.block _ (Array.getElem?_eq_some_iff.1 HXV.out).1).trans HXV.out | exact (HN3.out.block _ (Array.getElem?_eq_some_iff.1 HXV.out).1).trans HXV.out | exact (HN4.out.block _ (Array.getElem?_eq_some_iff.1 HXV.out).1).trans HXV.out | exact (Below.heap_alloc _ _ _ (by have := HN4.out.size; have := (Array.getElem?_eq_some_iff.1 HXV.out).1; omega)).trans ((HN4.out.block _ (Array.getElem?_eq_some_iff.1 HXV.out).1).trans HXV.out)
          clear hK K hHeld
          have hHeld := hHeld2
          clear hHeld2
          try simp only [Act.put, List.getElem_toArray, List.getElem_cons_succ, List.getElem_cons_zero, List.setIfInBounds_toArray, List.set_cons_zero, List.set_cons_succ]
          refine wpAnyH_ready (rs := [12]) (by kernel_rfl) (by simp) ?_
          refine AllReadyH.cons rfl (fun K hK => ?_) AllReadyH.nil
          go_simp
          go_at_call 28
          refine calls_named ?_
          intro W2 hW2
          have hb2 : Below V.heap.size V W2 := by rw [hW2]; first | exact Below.refl _ _ | exact (Below.refl _ _).drew | exact HN2.out
          clear hW2
          with_reducible refine (C6.out _ (bthen HBV.out hb2)).mono ?_
          rintro e n3 ⟨rfl, hb3⟩
          have HN3 := Lib.hid (bthen hb2 hb3)
          clear hb2 hb3
          try go_simp
          refine hK.out _ _ ?hS16 (fun hHeld2 => ?_)
          case hS16 => first | with_reducible exact HXA.out | with_reducible exact HXV.out | exact HXV.out | exact (HN0.out.block _ (Array.getElem?_eq_some_iff.1 HXV.out).1).trans HXV.out | exact (HN1.out.block _ (Array.getElem?_eq_some_iff.1 HXV.out).1).trans HXV.out | exact (HN2.out.block _ (Array.getElem?_eq_some_iff.1 HXV.out).1).trans HXV.out | exact (HN3.out.block _ (Array.getElem?_eq_some_iff.1 HXV.out).1).trans HXV.out | exact (HN4.out.block _ (Array.getElem?_eq_some_iff.1 HXV.out).1).trans HXV.out | exact (Below.heap_alloc _ _ _ (by have := HN4.out.size; have := (Array.getElem?_eq_some_iff.1 HXV.out).1; omega)).trans ((HN4.out.block _ (Array.getElem?_eq_some_iff.1 HXV.out).1).trans HXV.out)
          clear hK K hHeld
          have hHeld := hHeld2
          clear hHeld2
          try simp only [Act.put, List.getElem_toArray, List.getElem_cons_succ, List.getElem_cons_zero, List.setIfInBounds_toArray, List.set_cons_zero, List.set_cons_succ]
          refine wpAnyH_ready (rs := [15]) (by kernel_rfl) (by simp) ?_
          refine AllReadyH.cons rfl (fun K hK => ?_) AllReadyH.nil
          go_simp
          go_at_call 28
          refine calls_named ?_
          intro W2 hW2
          have hb2 : Below V.heap.size V W2 := by rw [hW2]; first | exact Below.refl _ _ | exact (Below.refl _ _).drew | exact HN3.out
          clear hW2
          with_reducible refine (C7.out _ (bthen HBV.out hb2)).mono ?_
          rintro e n4 ⟨rfl, hb3⟩
          have HN4 := Lib.hid (bthen hb2 hb3)
          clear hb2 hb3
          try go_simp
          refine hK.out _ _ ?hS17 (fun hHeld2 => ?_)
          case hS17 => first | with_reducible exact HXA.out | with_reducible exact HXV.out | exact HXV.out | exact (HN0.out.block _ (Array.getElem?_eq_some_iff.1 HXV.out).1).trans HXV.out | exact (HN1.out.block _ (Array.getElem?_eq_some_iff.1 HXV.out).1).trans HXV.out | exact (HN2.out.block _ (Array.getElem?_eq_some_iff.1 HXV.out).1).trans HXV.out | exact (HN3.out.block _ (Array.getElem?_eq_some_iff.1 HXV.out).1).trans HXV.out | exact (HN4.out.block _ (Array.getElem?_eq_some_iff.1 HXV.out).1).trans HXV.out | exact (Below.heap_alloc _ _ _ (by have := HN4.out.size; have := (Array.getElem?_eq_some_iff.1 HXV.out).1; omega)).trans ((HN4.out.block _ (Array.getElem?_eq_some_iff.1 HXV.out).1).trans HXV.out)
          clear hK K hHeld
          have hHeld := hHeld2
          clear hHeld2
          try simp only [Act.put, List.getElem_toArray, List.getElem_cons_succ, List.getElem_cons_zero, List.setIfInBounds_toArray, List.set_cons_zero, List.set_cons_succ]
          refine wpAnyH_ready (rs := [16]) (by kernel_rfl) (by simp) ?_
          refine AllReadyH.cons rfl (fun K hK => ?_) AllReadyH.nil
          go_simp
          skip
          try go_simp
          refine hK.out _ _ ?hS18 (fun hHeld2 => ?_)
          case hS18 => first | with_reducible exact HXA.out | with_reducible exact HXV.out | exact HXV.out | exact (HN0.out.block _ (Array.getElem?_eq_some_iff.1 HXV.out).1).trans HXV.out | exact (HN1.out.block _ (Array.getElem?_eq_some_iff.1 HXV.out).1).trans HXV.out | exact (HN2.out.block _ (Array.getElem?_eq_some_iff.1 HXV.out).1).trans HXV.out | exact (HN3.out.block _ (Array.getElem?_eq_some_iff.1 HXV.out).1).trans HXV.out | exact (HN4.out.block _ (Array.getElem?_eq_some_iff.1 HXV.out).1).trans HXV.out | exact (Below.heap_alloc _ _ _ (by have := HN4.out.size; have := (Array.getElem?_eq_some_iff.1 HXV.out).1; omega)).trans ((HN4.out.block _ (Array.getElem?_eq_some_iff.1 HXV.out).1).trans HXV.out)
          clear hK K hHeld
          have hHeld := hHeld2
          clear hHeld2
          try simp only [Act.put, List.getElem_toArray, List.getElem_cons_succ, List.getElem_cons_zero, List.setIfInBounds_toArray, List.set_cons_zero, List.set_cons_succ]
          refine wpAnyH_ready (rs := [17]) (by kernel_rfl) (by simp) ?_
          refine AllReadyH.cons rfl (fun K hK => ?_) AllReadyH.nil
          refine step_appendL eStr (by rfl) (.tmp 36) (.tmp 52) (by rfl) (w.heap.size + 1) L2 [(⟨#[99, 111, 117, 110, 116]⟩ : ByteArray), dec cnt, (⟨#[115, 117, 109]⟩ : ByteArray), dec sum, (⟨#[108, 101, 97, 115, 116]⟩ : ByteArray), dec least, (⟨#[109, 111, 115, 116]⟩ : ByteArray), dec most, (⟨#[109, 101, 97, 110]⟩ : ByteArray), dec mean] (.slice A2 L2.length k2) _ (by rfl) (by rfl) ((HOV.out.below HN4.out).below (balloc (Below.refl _ _) _)) ((OwnL.lits (f := strC) (e := 9) (n := 1) n4.heap.size n4 [(⟨#[99, 111, 117, 110, 116]⟩ : ByteArray), dec cnt, (⟨#[115, 117, 109]⟩ : ByteArray), dec sum, (⟨#[108, 101, 97, 115, 116]⟩ : ByteArray), dec least, (⟨#[109, 111, 115, 116]⟩ : ByteArray), dec most, (⟨#[109, 101, 97, 110]⟩ : ByteArray), dec mean] _ n4.heap.size 10 rfl (Nat.le_refl _) rfl (by decide) rfl rfl).row eStr) (by have := F2.out.1; simp; omega) (by have := HN4.out.size; simp; omega) ?_
          intro out A c nn hout hown hg hor
          have hb : Below (w.heap.size + 1) V nn := ((HN4.out.mono (Nat.le_of_lt hsv)).alloc (by have := HN4.out.size; omega) _).trans (grown_own hg (HOV.out.below HN4.out) (by have := HN4.out.size; simp; omega))
          have hxa := (hg.block v2.heap.size (by have := HN4.out.size; have := (Array.getElem?_eq_some_iff.1 HXV.out).1; simp; omega) (fun e => by have := HLO.out _ e.symm; omega)).trans ((Below.heap_alloc _ _ _ (by have := HN4.out.size; have := (Array.getElem?_eq_some_iff.1 HXV.out).1; omega)).trans ((HN4.out.block _ (Array.getElem?_eq_some_iff.1 HXV.out).1).trans HXV.out))
          have HXA := Lib.hid hxa
          have HO := Lib.hid hown
          have HOU := Lib.hid hout
          have HBN := Lib.hid hb
          clear hown hout hg hor hb hxa
          refine hK.out _ _ ?hS19 (fun hHeld2 => ?_)
          case hS19 => first | with_reducible exact HXA.out | with_reducible exact HXV.out | exact HXV.out | exact (HN0.out.block _ (Array.getElem?_eq_some_iff.1 HXV.out).1).trans HXV.out | exact (HN1.out.block _ (Array.getElem?_eq_some_iff.1 HXV.out).1).trans HXV.out | exact (HN2.out.block _ (Array.getElem?_eq_some_iff.1 HXV.out).1).trans HXV.out | exact (HN3.out.block _ (Array.getElem?_eq_some_iff.1 HXV.out).1).trans HXV.out | exact (HN4.out.block _ (Array.getElem?_eq_some_iff.1 HXV.out).1).trans HXV.out | exact (Below.heap_alloc _ _ _ (by have := HN4.out.size; have := (Array.getElem?_eq_some_iff.1 HXV.out).1; omega)).trans ((HN4.out.block _ (Array.getElem?_eq_some_iff.1 HXV.out).1).trans HXV.out)
          clear hK K hHeld
          have hHeld := hHeld2
          clear hHeld2
          try simp only [Act.put, List.getElem_toArray, List.getElem_cons_succ, List.getElem_cons_zero, List.setIfInBounds_toArray, List.set_cons_zero, List.set_cons_succ]
          refine wpAnyH_take (i := 18) (v := ?v20) rfl (by kernel_rfl) (by kernel_rfl) (by kernel_rfl) (fun _ _ _ h => h) (Or.inl ⟨by rfl, ?hy20⟩) (by assumption) ?_
          case hy20 =>
            intro w' hSw
            (try dsimp only at hSw)
            go_simp
            try (with_reducible rfl)
          try simp only [Act.put, List.getElem_toArray, List.getElem_cons_succ, List.getElem_cons_zero, List.setIfInBounds_toArray, List.set_cons_zero, List.set_cons_succ]
          refine wpAnyH_done (by kernel_rfl) ?_ _
          go_wp2_with fail
          go_meet
          exact ⟨by have := HO.out; rw [HE.out, ← HOU.out]; exact this, HBN.out⟩
      case rest =>
        obtain ⟨ho3, hbc⟩ := hcut
        obtain ⟨A3, k3, rfl⟩ := ho3.form
        rename World => v3
        have hx3 := (hbc.block w.heap.size (Nat.lt_succ_self _)).trans HXB.out
        have hs3 : w.heap.size + 1 < v3.heap.size := Nat.lt_of_lt_of_le hsv hbc.size
        have HB3 := Lib.hid (HBV.out.trans (hbc.mono (Nat.le_succ _)))
        have HO3 := Lib.hid ho3
        obtain ⟨g0, g0f, g0l, g0h⟩ := box_at (Below.refl _ _) hx3
        clear ho3 hbc hx3 g0h f0 f0f f0l HXV HXB HOV hsv
        cases hz : statZ atick aload awant arepl awhy with
        | true =>
          have HE := Lib.hid (show L4 = L3 by rw [H4.out]; unfold repW4; rw [if_pos hz])
          have hjo := joinO_any _ L3 A3 k3 v3 HO3.out (by rw [← HE.out]; exact N4.out) F3.out.2 (by have := F3.out.1; omega)
          rw [← HE.out] at hjo
          have HJ := Lib.hid hjo
          clear hjo
          have hle : L3.length = L4.length := by rw [HE.out]
          have HLE := Lib.hid hle
          clear hle
          go_wp2_with (go_at_call 18
                       refine (show Calls Tryd.prog 18 #[.slice A3 L3.length k3, .string ⟨#[32]⟩] v3 _ from by rw [HLE.out]; exact HJ.out).mono ?_
                       rintro e n2 ⟨rfl, hb2⟩
                       have HN2 := Lib.hid (bthen HB3.out hb2)
                       clear hb2)
          go_ret
          exact ⟨rfl, HN2.out⟩
        | false =>
          have HE := Lib.hid (show L4 = L3 ++ [advS atick aload awant arepl awhy] by rw [H4.out]; unfold repW4; rw [hz]; rfl)
          obtain ⟨av, hav⟩ : ∃ s, s = advS atick aload awant arepl awhy := ⟨_, rfl⟩
          rw [← hav] at HE HADV
          clear hav
          go_wp2_with (first
            | (go_at_call 17
               refine (HADV.out _ HB3.out).mono ?_
               rintro e n1 ⟨rfl, hb1⟩
               have HN1 := Lib.hid hb1
               clear hb1)
            | (at_builtin
               refine wpList_appendL eStr (by rfl) (by rfl) (w.heap.size + 1) L3 [av] (.slice A3 L3.length k3) _ (by rfl) (by rfl) ((HO3.out.below HN1.out).below (balloc (Below.refl _ _) _)) (RowIn.lit (n := 1) (f := strC) n1 av _ _ n1.heap.size rfl rfl) (by have := F3.out.1; simp; omega) (by have := HN1.out.size; simp; omega) ?_
               intro out A c nn hout hown hg hor
               have hb : Below (w.heap.size + 1) v3 nn := ((HN1.out.mono (Nat.le_of_lt hs3)).alloc (by have := HN1.out.size; omega) _).trans (grown_own hg (HO3.out.below HN1.out) (by have := HN1.out.size; simp; omega))
               obtain rfl : out = L4 := by rw [hout, HE.out]
               have HO := Lib.hid hown
               have HBN := Lib.hid (HB3.out.trans (hb.mono (Nat.le_succ _)))
               clear hown hout hg hor hb)
            | (go_at_call 18
               refine (joinO_any _ _ _ _ _ HO.out N4.out F4.out.2 (by have := F4.out.1; omega)).mono ?_
               rintro e n2 ⟨rfl, hb2⟩
               have HN2 := Lib.hid (bthen HBN.out hb2)
               clear hb2))
          go_ret
          exact ⟨rfl, HN2.out⟩
end

end Go.Proofs.YtmndhffimlkjgaaDoor
