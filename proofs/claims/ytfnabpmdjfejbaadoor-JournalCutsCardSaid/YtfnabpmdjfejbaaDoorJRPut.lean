/- flywheelref50.Put: a call's bytes. -/
import Derived.Test.YtfnabpmdjfejbaaDoorJPut
import Derived.Test.YtfnabpmdjfejbaaDoorJRefZig
namespace Go.Proofs.YtfnabpmdjfejbaaDoor
set_option linter.unusedSimpArgs false
set_option linter.unusedVariables false
open Go.RowKit Go.Lib

theorem numsC_bare (c : CallD) : numsC (bareC c) = numsC c := by
  unfold bareC
  by_cases h1 : c.kind = 1
  · rw [if_pos h1]; unfold numsC; simp [h1]
  rw [if_neg h1]
  by_cases h2 : c.kind = 2
  · rw [if_pos h2]; unfold numsC; simp [h2]
  rw [if_neg h2]
  by_cases h4 : c.kind = 4
  · rw [if_pos h4]; unfold numsC; simp [h4]
  rw [if_neg h4]
  by_cases h5 : c.kind = 5
  · rw [if_pos h5]; unfold numsC; simp [h5]
  rw [if_neg h5]
  by_cases h6 : c.kind = 6
  · rw [if_pos h6]; unfold numsC; simp [h6]
  rw [if_neg h6]
  by_cases h7 : c.kind = 7
  · rw [if_pos h7]; unfold numsC; simp [h7]
  rw [if_neg h7]
  unfold numsC
  simp [h1, h2, h4, h5, h6]

/-- What '[]byte(s)' leaves. -/
theorem conv_row0 (w : World) (s : ByteArray) (cap : Nat) (hc : s.size ≤ cap) (fr : Nat × Nat) : ∀ W, W = w.drew.alloc (.cells (bytesRow s cap) 5 fr) → RowIn 1 byteC W (.slice (some ⟨w.heap.size, 0, none⟩) s.size cap) s.data.toList ∧ Below w.heap.size w W := by
  rintro W rfl
  have e1 : s.data.toList.length = s.size := by simp
  refine ⟨⟨some ⟨w.heap.size, 0, none⟩, cap, by rw [e1], by rw [e1]; exact hc, fun _ => ⟨w.heap.size, 0, rfl, by simp, fun k x hk j u hu => ?_⟩⟩, balloc (Below.refl _ _).drew _⟩
  obtain ⟨hk1, hk2⟩ := List.getElem?_eq_some_iff.1 hk
  simp only [byteC] at hu
  cases j with
  | succ j => simp at hu
  | zero =>
    simp only [List.getElem?_cons_zero, Option.some.injEq] at hu
    subst hu
    rw [e1] at hk1
    have h1 : (w.drew.alloc (.cells (bytesRow s cap) 5 fr)).heap[w.heap.size]? = some (.cells (bytesRow s cap) 5 fr) := heap_alloc_new w.drew _
    simp only [World.cell?, h1]
    have h2 : (bytesRow s cap)[0 + k * 1 + 0]? = some (.int .u8 (x.toNat : Nat)) := by
      unfold bytesRow
      rw [Nat.zero_add, Nat.mul_one, Nat.add_zero, Array.getElem?_append_left (by simp; exact hk1), Array.getElem?_map]
      have : s.data[k]? = some x := by rw [← Array.getElem?_toList]; exact hk
      rw [this]
      rfl
    exact h2
def convW (w : World) (s : ByteArray) : World := w.drew.alloc (.cells (bytesRow s (grownCap w s.size 0 5)) 5 ((bytesRow s (grownCap w s.size 0 5)).size, (bytesRow s (grownCap w s.size 0 5)).size + 1))
theorem conv_run (w : World) (s : ByteArray) : (Go.convert 9 27 (.string s)).run Tryd.prog w = .ok (.slice (some ⟨w.heap.size, 0, none⟩) s.size (grownCap w s.size 0 5)) (convW w s) :=
  run_bytes_of_string w _ _ _ s Tryd.underlying9 Tryd.underlying27 Tryd.underlying5
theorem conv_row (w : World) (s : ByteArray) : RowIn 1 byteC (convW w s) (.slice (some ⟨w.heap.size, 0, none⟩) s.size (grownCap w s.size 0 5)) s.data.toList ∧ Below w.heap.size w (convW w s) :=
  conv_row0 w s _ (grownCap_ge _ _ _ _) _ _ rfl

set_option maxRecDepth 100000 in
set_option maxHeartbeats 4000000 in
theorem rput_named (c : CallD) (s : ByteArray) (w : World) (hT : ∀ W, Calls Tryd.prog 28 #[callV c] W (TextSays W s 0)) (hc : c.ok) (hN : namedB c.kind = true) (hid : c.id.size ≤ 20) (l : List UInt8)
    (hl : l = ((UInt8.ofNat c.id.size :: c.id.data.toList) ++ zputs (numsC c))) :
    Calls Tryd.prog 9 #[callV c] w (PutSays w ((UInt8.ofNat l.length :: l) ++ sealB (UInt8.ofNat l.length :: l))) := by
  have HNU := Lib.hid (fun W => rnum_any c W)
  have HI := Lib.hid (numsC_i64 hc)
  have HIL := Lib.hid (numsC_len c)
  have hzl := zputs_len (numsC_i64 hc)
  have hnl := numsC_len c
  have HNM := Lib.hid (show ∀ W, Calls Tryd.prog 29 #[.int .i64 c.kind] W fun e w' => e = .returned (.bool true) ∧ Below W.heap.size W w' from fun W => by have := rnamed_any c.kind W; rw [hN] at this; exact this)
  have hbl : l.length ≤ 91 := by
    have h3 : c.id.data.toList.length = c.id.size := by simp
    rw [hl]
    simp only [List.length_append, List.length_cons, h3]
    omega
    
  have HBD := Lib.hid hl
  have HLL := Lib.hid hbl
  have q0 := Lib.hid (show (c.id.size : Int) = ((UInt8.ofNat c.id.size).toNat : Nat) by rw [ofNat_toNat (by omega)])
  generalize numsC c = nl at HNU HI HIL hzl hnl HBD
  generalize hb0 : UInt8.ofNat c.id.size = b0 at q0 HBD
  have q1 := Lib.hid (show (l.length : Int) = ((UInt8.ofNat l.length).toNat : Nat) by rw [ofNat_toNat (by omega)])
  generalize hb1 : UInt8.ofNat l.length = b1 at q1 ⊢
  unfold TextSays at hT
  have HTX := Lib.hid hT
  clear hT hc hN hl hzl hnl hb0 hb1
  obtain ⟨k, id, tick, val, handle, mn, mx, tg, tol, win, hold⟩ := c
  unfold callV at HTX HNU ⊢
  dsimp only at HTX HNU HNM HBD q0 hid ⊢
  have hcv := fun W => conv_run W id
  go_enter Tryd.func9, Tryd.ntmps9
  go_upto_region 8 with (first
    | (go_at_call 28
       refine calls_named ?_
       intro W1 hW1
       have hb1 : Below w.heap.size w W1 := by rw [hW1]; exact balloc (Below.refl _ _) _
       have hx1 : W1.heap[w.heap.size]? = some (.cells #[.int .i64 k, .string id, .int .i64 tick, .int .i64 val, .int .i64 handle, .int .i64 mn, .int .i64 mx, .int .i64 tg, .int .i64 tol, .int .i64 win, .int .i64 hold] 25 (0, 0)) := by rw [hW1]; exact heap_alloc_new _ _
       clear hW1
       refine (HTX.out W1).mono ?_
       rintro e w2 ⟨rfl, hb2⟩
       obtain ⟨a2, a2f, a2l, a2h⟩ := box_at hb2 hx1
       have HX2 := Lib.hid a2h
       have HB2 := Lib.hid (bthen hb1 hb2)
       clear hb1 hx1 hb2 a2h)
    | (go_at_call 29
       refine (HNM.out w2).mono ?_
       rintro e w3 ⟨rfl, hb3⟩
       obtain ⟨a3, a3f, a3l, a3h⟩ := box_at hb3 HX2.out
       have HX3 := Lib.hid a3h
       have HB3 := Lib.hid (bthen HB2.out hb3)
       clear hb3 a3h))
  refine name_world ?_
  intro W hW
  obtain rfl : W = w3 := hW
  have HX := HX3
  have HB := HB3
  have HLIT := Lib.hid (RowIn.lit (n := 1) (f := byteC) W b0 #[.int .u8 (id.size : Nat)] 5 W.heap.size rfl (by rw [q0.out]; rfl))
  go_wp2_with (first
    | (at_builtin
       have h9 := HO7.out
       refine wpList_appendL eByte (by rfl) (by rfl) W.heap.size [b1] out7 (.slice (some ⟨w7.heap.size, 0, none⟩) 1 1) _ (by rfl) (by rfl) (OwnL.lits W.heap.size w7 [b1] _ w7.heap.size 1 rfl HB7.out.size rfl (by decide) (by rw [q1.out]; rfl) rfl) ((h9.row eByte).below (balloc (Below.refl _ _) _)) (by have := HLL.out; simp; omega) (by have := HB7.out.size; simp; omega) ?_
       intro out8 A8 c8 w8 hout8 hown8 hg8 _
       have hb8 : Below W.heap.size W w8 := (balloc HB7.out _).trans (grown_own hg8 (OwnL.lits (f := byteC) (e := 5) (n := 1) W.heap.size w7 [b1] #[.int .u8 (out7.length : Nat)] w7.heap.size 1 rfl HB7.out.size rfl (by decide) (by rw [q1.out]; rfl) rfl) (by have := HB7.out.size; simp; omega))
       have HL8 := Lib.hid (show out8.length ≤ 92 by rw [hout8]; have := HLL.out; simp; omega)
       have HO8 := Lib.hid hown8
       have HOUT8 := Lib.hid hout8
       have HB8 := Lib.hid hb8
       clear h9 hout8 hown8 hg8 hb8)
    | (at_builtin
       have h9 := HO6.out
       refine wpList_appendL eByte (by rfl) (by rfl) W.heap.size out5 (zputs nl) _ _ (by rfl) (by rfl) (HO5.out.below HB56.out) (h9.row eByte) (by have h1 := HLL.out; have h2 := congrArg List.length HBD.out; have h3 := congrArg List.length HOUT5.out; simp at h2 h3; omega) (bthen HB5.out HB56.out).size ?_
       intro out7 A7 c7 w7 hout7 hown7 hg7 _
       have hb7 : Below W.heap.size W w7 := (bthen HB5.out HB56.out).trans (grown_own hg7 (HO5.out.below HB56.out) (bthen HB5.out HB56.out).size)
       obtain rfl : out7 = l := (by rw [hout7, HOUT5.out, HBD.out])
       have HO7 := Lib.hid hown7
       have HB7 := Lib.hid hb7
       clear h9 hout7 hown7 hg7 hb7)
    | (at_builtin
       have h9 := HO4.out
       obtain ⟨r5, hb45⟩ := conv_row w4 id
       refine wpList_appendL eByte (by rfl) (by rfl) W.heap.size out4 id.data.toList _ _ (by rfl) (by rfl) (h9.below hb45) r5 (by have h3 := congrArg List.length HOUT4.out; simp at h3; simp; omega) (bthen HB4.out hb45).size ?_
       intro out5 A5 c5 w5 hout5 hown5 hg5 _
       have hb5 : Below W.heap.size W w5 := (bthen HB4.out hb45).trans (grown_own hg5 (h9.below hb45) (bthen HB4.out hb45).size)
       have a5 := (box_cells hb5 HX.out).1
       have HO5 := Lib.hid hown5
       have HOUT5 := Lib.hid (show out5 = b0 :: id.data.toList by rw [hout5, HOUT4.out]; rfl)
       have HB5 := Lib.hid hb5
       clear h9 r5 hb45 hout5 hown5 hg5 hb5)
    | (at_builtin
       refine wpList_appendL eByte (by rfl) (by rfl) W.heap.size [] [b0] (.slice none 0 0) _ (by rfl) (by rfl) (OwnL.nil _ _) HLIT.out (by simp) (by simp) ?_
       intro out4 A4 c4 w4 hout4 hown4 hg4 _
       have hb4 : Below W.heap.size W w4 := (balloc (Below.refl _ _) _).trans (grown_own hg4 (OwnL.nil (f := byteC) (e := 5) (n := 1) W.heap.size W) (by simp))
       have HO4 := Lib.hid hown4
       have HOUT4 := Lib.hid hout4
       have HB4 := Lib.hid hb4
       clear hout4 hown4 hg4 hb4)
    | (go_at_call 31
       refine (HNU.out w5).mono ?_
       rintro e w6 ⟨A6, c6, rfl, ho6, hb6⟩
       have HN6 := Lib.hid ho6
       have HNB := Lib.hid hb6
       clear ho6 hb6)
    | (go_at_call 30
       refine (rzputs_any _ nl w6 (HN6.out.row eNum) HI.out (by have := HIL.out; omega)).mono ?_
       rintro e wz ⟨Az, cz, rfl, ho6, hb6⟩
       have HO6 := Lib.hid ho6
       have HB56 := Lib.hid (bthen HNB.out hb6)
       clear ho6 hb6)
    | (go_at_call 32
       refine (rseal_any _ out8 w8 (HO8.out.row eByte) (by have := HL8.out; omega)).mono ?_
       generalize hr9 : out8 ++ sealB out8 = r9
       rintro e w9 ⟨A9, c9, rfl, ho9, hb89⟩
       have HO9 := Lib.hid ho9
       have HB9 := Lib.hid (bthen HB8.out hb89)
       have HR9 := Lib.hid hr9
       clear ho9 hb89 hr9))
  go_ret2
  have h1 := HO9.out
  have e1 : r9 = (b1 :: out7) ++ sealB (b1 :: out7) := by rw [← HR9.out, HOUT8.out]; rfl
  rw [e1] at h1
  exact ⟨A9, c9, by rw [e1]; rfl, h1.lower (by have := HB.out.size; have := HB8.out.size; omega), bthen HB.out HB9.out⟩

set_option maxRecDepth 100000 in
set_option maxHeartbeats 4000000 in
theorem rput_bare (c : CallD) (s : ByteArray) (w : World) (hT : ∀ W, Calls Tryd.prog 28 #[callV c] W (TextSays W s 0)) (hc : c.ok) (hN : namedB c.kind = false) (l : List UInt8)
    (hl : l = ((UInt8.ofNat (⟨#[]⟩ : ByteArray).size :: (⟨#[]⟩ : ByteArray).data.toList) ++ zputs (numsC c))) :
    Calls Tryd.prog 9 #[callV c] w (PutSays w ((UInt8.ofNat l.length :: l) ++ sealB (UInt8.ofNat l.length :: l))) := by
  have HNU := Lib.hid (fun W => rnum_any c W)
  have HI := Lib.hid (numsC_i64 hc)
  have HIL := Lib.hid (numsC_len c)
  have hzl := zputs_len (numsC_i64 hc)
  have hnl := numsC_len c
  have HNM := Lib.hid (show ∀ W, Calls Tryd.prog 29 #[.int .i64 c.kind] W fun e w' => e = .returned (.bool false) ∧ Below W.heap.size W w' from fun W => by have := rnamed_any c.kind W; rw [hN] at this; exact this)
  have hbl : l.length ≤ 91 := by
    have h3 : (⟨#[]⟩ : ByteArray).data.toList.length = (⟨#[]⟩ : ByteArray).size := rfl
    rw [hl]
    simp only [List.length_append, List.length_cons, h3]
    have h4 : (⟨#[]⟩ : ByteArray).size = 0 := rfl
    rw [h4]; omega
  have HBD := Lib.hid hl
  have HLL := Lib.hid hbl
  have q0 := Lib.hid (show ((⟨#[]⟩ : ByteArray).size : Int) = ((UInt8.ofNat (⟨#[]⟩ : ByteArray).size).toNat : Nat) by rfl)
  generalize numsC c = nl at HNU HI HIL hzl hnl HBD
  generalize hb0 : UInt8.ofNat (⟨#[]⟩ : ByteArray).size = b0 at q0 HBD
  have q1 := Lib.hid (show (l.length : Int) = ((UInt8.ofNat l.length).toNat : Nat) by rw [ofNat_toNat (by omega)])
  generalize hb1 : UInt8.ofNat l.length = b1 at q1 ⊢
  unfold TextSays at hT
  have HTX := Lib.hid hT
  clear hT hc hN hl hzl hnl hb0 hb1
  obtain ⟨k, id, tick, val, handle, mn, mx, tg, tol, win, hold⟩ := c
  unfold callV at HTX HNU ⊢
  dsimp only at HTX HNU HNM HBD q0  ⊢
  have hcv := fun W => conv_run W ⟨#[]⟩
  go_enter Tryd.func9, Tryd.ntmps9
  go_upto_region 8 with (first
    | (go_at_call 28
       refine calls_named ?_
       intro W1 hW1
       have hb1 : Below w.heap.size w W1 := by rw [hW1]; exact balloc (Below.refl _ _) _
       have hx1 : W1.heap[w.heap.size]? = some (.cells #[.int .i64 k, .string id, .int .i64 tick, .int .i64 val, .int .i64 handle, .int .i64 mn, .int .i64 mx, .int .i64 tg, .int .i64 tol, .int .i64 win, .int .i64 hold] 25 (0, 0)) := by rw [hW1]; exact heap_alloc_new _ _
       clear hW1
       refine (HTX.out W1).mono ?_
       rintro e w2 ⟨rfl, hb2⟩
       obtain ⟨a2, a2f, a2l, a2h⟩ := box_at hb2 hx1
       have HX2 := Lib.hid a2h
       have HB2 := Lib.hid (bthen hb1 hb2)
       clear hb1 hx1 hb2 a2h)
    | (go_at_call 29
       refine (HNM.out w2).mono ?_
       rintro e w3 ⟨rfl, hb3⟩
       obtain ⟨a3, a3f, a3l, a3h⟩ := box_at hb3 HX2.out
       have HX3 := Lib.hid a3h
       have HB3 := Lib.hid (bthen HB2.out hb3)
       clear hb3 a3h))
  refine name_world ?_
  intro W hW
  obtain rfl : W = w3 := hW
  have HX := HX3
  have HB := HB3
  have HLIT := Lib.hid (RowIn.lit (n := 1) (f := byteC) W b0 #[.int .u8 ((⟨#[]⟩ : ByteArray).size : Nat)] 5 W.heap.size rfl (by rw [q0.out]; rfl))
  go_wp2_with (first
    | (at_builtin
       have h9 := HO7.out
       refine wpList_appendL eByte (by rfl) (by rfl) W.heap.size [b1] out7 (.slice (some ⟨w7.heap.size, 0, none⟩) 1 1) _ (by rfl) (by rfl) (OwnL.lits W.heap.size w7 [b1] _ w7.heap.size 1 rfl HB7.out.size rfl (by decide) (by rw [q1.out]; rfl) rfl) ((h9.row eByte).below (balloc (Below.refl _ _) _)) (by have := HLL.out; simp; omega) (by have := HB7.out.size; simp; omega) ?_
       intro out8 A8 c8 w8 hout8 hown8 hg8 _
       have hb8 : Below W.heap.size W w8 := (balloc HB7.out _).trans (grown_own hg8 (OwnL.lits (f := byteC) (e := 5) (n := 1) W.heap.size w7 [b1] #[.int .u8 (out7.length : Nat)] w7.heap.size 1 rfl HB7.out.size rfl (by decide) (by rw [q1.out]; rfl) rfl) (by have := HB7.out.size; simp; omega))
       have HL8 := Lib.hid (show out8.length ≤ 92 by rw [hout8]; have := HLL.out; simp; omega)
       have HO8 := Lib.hid hown8
       have HOUT8 := Lib.hid hout8
       have HB8 := Lib.hid hb8
       clear h9 hout8 hown8 hg8 hb8)
    | (at_builtin
       have h9 := HO6.out
       refine wpList_appendL eByte (by rfl) (by rfl) W.heap.size out5 (zputs nl) _ _ (by rfl) (by rfl) (HO5.out.below HB56.out) (h9.row eByte) (by have h1 := HLL.out; have h2 := congrArg List.length HBD.out; have h3 := congrArg List.length HOUT5.out; simp at h2 h3; omega) (bthen HB5.out HB56.out).size ?_
       intro out7 A7 c7 w7 hout7 hown7 hg7 _
       have hb7 : Below W.heap.size W w7 := (bthen HB5.out HB56.out).trans (grown_own hg7 (HO5.out.below HB56.out) (bthen HB5.out HB56.out).size)
       obtain rfl : out7 = l := (by rw [hout7, HOUT5.out, HBD.out])
       have HO7 := Lib.hid hown7
       have HB7 := Lib.hid hb7
       clear h9 hout7 hown7 hg7 hb7)
    | (at_builtin
       have h9 := HO4.out
       obtain ⟨r5, hb45⟩ := conv_row w4 ⟨#[]⟩
       refine wpList_appendL eByte (by rfl) (by rfl) W.heap.size out4 (⟨#[]⟩ : ByteArray).data.toList _ _ (by rfl) (by rfl) (h9.below hb45) r5 (by have h3 := congrArg List.length HOUT4.out; simp at h3; simp; omega) (bthen HB4.out hb45).size ?_
       intro out5 A5 c5 w5 hout5 hown5 hg5 _
       have hb5 : Below W.heap.size W w5 := (bthen HB4.out hb45).trans (grown_own hg5 (h9.below hb45) (bthen HB4.out hb45).size)
       have a5 := (box_cells hb5 HX.out).1
       have HO5 := Lib.hid hown5
       have HOUT5 := Lib.hid (show out5 = b0 :: (⟨#[]⟩ : ByteArray).data.toList by rw [hout5, HOUT4.out]; rfl)
       have HB5 := Lib.hid hb5
       clear h9 r5 hb45 hout5 hown5 hg5 hb5)
    | (at_builtin
       refine wpList_appendL eByte (by rfl) (by rfl) W.heap.size [] [b0] (.slice none 0 0) _ (by rfl) (by rfl) (OwnL.nil _ _) HLIT.out (by simp) (by simp) ?_
       intro out4 A4 c4 w4 hout4 hown4 hg4 _
       have hb4 : Below W.heap.size W w4 := (balloc (Below.refl _ _) _).trans (grown_own hg4 (OwnL.nil (f := byteC) (e := 5) (n := 1) W.heap.size W) (by simp))
       have HO4 := Lib.hid hown4
       have HOUT4 := Lib.hid hout4
       have HB4 := Lib.hid hb4
       clear hout4 hown4 hg4 hb4)
    | (go_at_call 31
       refine (HNU.out w5).mono ?_
       rintro e w6 ⟨A6, c6, rfl, ho6, hb6⟩
       have HN6 := Lib.hid ho6
       have HNB := Lib.hid hb6
       clear ho6 hb6)
    | (go_at_call 30
       refine (rzputs_any _ nl w6 (HN6.out.row eNum) HI.out (by have := HIL.out; omega)).mono ?_
       rintro e wz ⟨Az, cz, rfl, ho6, hb6⟩
       have HO6 := Lib.hid ho6
       have HB56 := Lib.hid (bthen HNB.out hb6)
       clear ho6 hb6)
    | (go_at_call 32
       refine (rseal_any _ out8 w8 (HO8.out.row eByte) (by have := HL8.out; omega)).mono ?_
       generalize hr9 : out8 ++ sealB out8 = r9
       rintro e w9 ⟨A9, c9, rfl, ho9, hb89⟩
       have HO9 := Lib.hid ho9
       have HB9 := Lib.hid (bthen HB8.out hb89)
       have HR9 := Lib.hid hr9
       clear ho9 hb89 hr9))
  go_ret2
  have h1 := HO9.out
  have e1 : r9 = (b1 :: out7) ++ sealB (b1 :: out7) := by rw [← HR9.out, HOUT8.out]; rfl
  rw [e1] at h1
  exact ⟨A9, c9, by rw [e1]; rfl, h1.lower (by have := HB.out.size; have := HB8.out.size; omega), bthen HB.out HB9.out⟩

set_option maxRecDepth 100000 in
set_option maxHeartbeats 4000000 in
theorem rput_badc (c : CallD) (s : ByteArray) (x : Int) (w : World) (hT : ∀ W, Calls Tryd.prog 28 #[callV c] W (TextSays W s x)) (hx : x ≠ 0) :
    Calls Tryd.prog 9 #[callV c] w (BadSays w x) := by
  unfold TextSays at hT
  have HTX := Lib.hid hT
  clear hT
  have q : (x == 0) = false := by simpa using hx
  obtain ⟨k, id, tick, val, handle, mn, mx, tg, tol, win, hold⟩ := c
  unfold callV at HTX ⊢
  dsimp only at HTX ⊢
  go_enter Tryd.func9, Tryd.ntmps9
  go_wp2_with (first
    | (go_at_call 28
       refine (HTX.out _).mono ?_
       rintro e w2 ⟨rfl, hb2⟩))
  go_ret2
  exact ⟨rfl, bthen (balloc (Below.refl _ _) _) hb2⟩
theorem rput_ok (c : CallD) (w : World) (hc : c.ok) (he : textE c = 0) : Calls Tryd.prog 9 #[callV c] w (PutSays w (putB c)) := by
  have hT : ∀ W, Calls Tryd.prog 28 #[callV c] W (TextSays W (textS c) 0) := fun W => by
    have := rtext_any c W hc
    rwa [he] at this
  have hid := bare_id he
  cases hN : namedB c.kind with
  | true =>
    have e1 := bare_named hN
    rw [e1] at hid
    exact rput_named c (textS c) w hT hc hN hid (bodyB (bareC c)) (by unfold bodyB; rw [e1, numsC_bare])
  | false =>
    have e1 := bare_unnamed hN
    exact rput_bare c (textS c) w hT hc hN (bodyB (bareC c)) (by unfold bodyB; rw [e1, numsC_bare])
theorem rput_bad (c : CallD) (w : World) (hc : c.ok) (he : textE c ≠ 0) : Calls Tryd.prog 9 #[callV c] w (BadSays w (textE c)) :=
  rput_badc c (textS c) (textE c) w (fun W => rtext_any c W hc) he
end Go.Proofs.YtfnabpmdjfejbaaDoor
