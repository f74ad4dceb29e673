/- journal.Put: a call's bytes. -/
import Derived.Test.YtfnabpmdjfejbaaDoorJRText
import Derived.Test.YtfnabpmdjfejbaaDoorStor
namespace Go.Proofs.YtfnabpmdjfejbaaDoor
set_option linter.unusedSimpArgs false
set_option linter.unusedVariables false
open Go.RowKit Go.Lib

def bodyB (d : CallD) : List UInt8 := (UInt8.ofNat d.id.size :: d.id.data.toList) ++ zputs (numsC d)
def allP (d : CallD) : List UInt8 := UInt8.ofNat (bodyB d).length :: bodyB d
def sealP (d : CallD) : List UInt8 := allP d ++ sealB (allP d)
def putB (c : CallD) : List UInt8 := sealP (bareC c)
theorem bareC_ok {c : CallD} (h : c.ok) : (bareC c).ok := by
  obtain ⟨h1, h2, h3, h4, h5, h6⟩ := h
  have z : I64 0 := by unfold I64; omega
  have k1 : I64 1 := by unfold I64; omega
  have k2 : I64 2 := by unfold I64; omega
  have k4 : I64 4 := by unfold I64; omega
  have k5 : I64 5 := by unfold I64; omega
  have k6 : I64 6 := by unfold I64; omega
  have k7 : I64 7 := by unfold I64; omega
  have e0 : (⟨#[]⟩ : ByteArray).size ≤ maxLen := by decide
  have pz : polZ.ok := ⟨z, z, z, z, z, z⟩
  unfold bareC
  repeat' split
  all_goals exact ⟨by assumption, by assumption, by assumption, by assumption, by assumption, by assumption⟩
theorem bare_named {c : CallD} (h : namedB c.kind = true) : (bareC c).id = c.id := by
  unfold namedB at h
  unfold bareC
  repeat' split
  all_goals first | rfl | simp_all
theorem bare_unnamed {c : CallD} (h : namedB c.kind = false) : (bareC c).id = ⟨#[]⟩ := by
  unfold namedB at h
  unfold bareC
  repeat' split
  all_goals first | rfl | simp_all
theorem bare_id {c : CallD} (h : textE c = 0) : (bareC c).id.size ≤ 20 := by
  cases hn : namedB c.kind with
  | false => rw [bare_unnamed hn]; decide
  | true =>
    rw [bare_named hn]
    unfold textE at h
    split at h
    · cases h
    · split at h
      · cases h
      · rename_i hk
        have : idS c.id = true := by
          cases hi : idS c.id with
          | true => rfl
          | false => exact absurd ⟨hn, hi⟩ hk
        exact (idS_okTo _ this).2.1
theorem bodyB_len {d : CallD} (h : d.ok) (hid : d.id.size ≤ 20) : (bodyB d).length ≤ 91 := by
  have h1 := zputs_len (numsC_i64 h)
  have h2 := numsC_len d
  have h3 : d.id.data.toList.length = d.id.size := by simp
  simp only [bodyB, List.length_append, List.length_cons]
  omega
def PutSays (w : World) (l : List UInt8) (e : Ending) (w' : World) : Prop :=
  ∃ A cp, e = .returned (.tuple #[.slice A l.length cp, .int .i64 0]) ∧ OwnL byteC 5 1 w.heap.size w' (.slice A l.length cp) l ∧ Below w.heap.size w w'

set_option maxRecDepth 100000 in
set_option maxHeartbeats 4000000 in
theorem jput_core (c d : CallD) (s : ByteArray) (w : World) (hT : ∀ W, Below w.heap.size w W → Calls Tryd.prog 23 #[callV c] W (TextSays W s 0))
    (hB : ∀ W, Calls Tryd.prog 24 #[callV c] W fun e w' => e = .returned (callV d) ∧ Below W.heap.size W w') (hd : d.ok) (hid : d.id.size ≤ 20) :
    Calls Tryd.prog 8 #[callV c] w (PutSays w (sealP d)) := by
  have HNU := Lib.hid (fun W => jnum_any d W)
  have HI := Lib.hid (numsC_i64 hd)
  have HIL := Lib.hid (numsC_len d)
  have HZL := Lib.hid (zputs_len (numsC_i64 hd))
  have hbl := bodyB_len hd hid
  have HSE := Lib.hid (show sealP d = (UInt8.ofNat (bodyB d).length :: bodyB d) ++ sealB (UInt8.ofNat (bodyB d).length :: bodyB d) from rfl)
  have HBD := Lib.hid (show bodyB d = (UInt8.ofNat d.id.size :: d.id.data.toList) ++ zputs (numsC d) from rfl)
  have q0 := Lib.hid (show (d.id.size : Int) = ((UInt8.ofNat d.id.size).toNat : Nat) by rw [ofNat_toNat (by omega)])
  generalize numsC d = nl at HNU HI HIL HZL HBD
  generalize hbo : bodyB d = bl at hbl HSE HBD
  clear hbo
  have q1 := Lib.hid (show (bl.length : Int) = ((UInt8.ofNat bl.length).toNat : Nat) by rw [ofNat_toNat (by omega)])
  have HL := Lib.hid hbl
  unfold TextSays at hT
  have HTX := Lib.hid hT
  have HBR := Lib.hid hB
  clear hT hB hd
  obtain ⟨k, id, tick, val, handle, mn, mx, tg, tol, win, hold⟩ := c
  obtain ⟨k', id', tick', val', handle', mn', mx', tg', tol', win', hold'⟩ := d
  unfold callV at HTX HBR HNU ⊢
  dsimp only at HTX HBR HNU HBD HSE hid q0 ⊢
  go_enter Tryd.func8, Tryd.ntmps8
  go_upto_region 5 with (first
    | (go_at_call 23
       refine calls_named ?_
       intro W1 hW1
       have hb1 : Below w.heap.size w W1 := by rw [hW1]; exact balloc (Below.refl _ _) _
       have hx1 : W1.heap[w.heap.size]? = some (.cells #[.int .i64 k, .string id, .int .i64 tick, .int .i64 val, .int .i64 handle, .int .i64 mn, .int .i64 mx, .int .i64 tg, .int .i64 tol, .int .i64 win, .int .i64 hold] 25 (0, 0)) := by rw [hW1]; exact heap_alloc_new _ _
       clear hW1
       refine (HTX.out W1 hb1).mono ?_
       rintro e w2 ⟨rfl, hb2⟩
       obtain ⟨a2, a2f, a2l, a2h⟩ := box_at hb2 hx1
       have HX2 := Lib.hid a2h
       have HB2 := Lib.hid (bthen hb1 hb2)
       clear hb1 hx1 hb2 a2h)
    | (go_at_call 24
       refine (HBR.out w2).mono ?_
       rintro e w3 ⟨rfl, hb3⟩
       obtain ⟨a3, a3f, a3l, a3h⟩ := box_at hb3 HX2.out
       have HX3 := Lib.hid a3h
       have HB3 := Lib.hid (bthen HB2.out hb3)
       clear hb3 a3h))
  refine name_world ?_
  intro W hW
  obtain ⟨k0, _, kz, kb⟩ := stor_at HX3.out [.int .i64 k', .string id', .int .i64 tick', .int .i64 val', .int .i64 handle', .int .i64 mn', .int .i64 mx', .int .i64 tg', .int .i64 tol', .int .i64 win', .int .i64 hold'] rfl W hW
  have hb0 : Below w.heap.size w W := HB3.out.trans (kb _ (Nat.le_refl _))
  clear hW kz kb
  obtain ⟨a4, a4f, a4l, a4h⟩ := box_at (Below.refl _ _) k0
  have HX := Lib.hid a4h
  have HB := Lib.hid hb0
  clear k0 hb0 a4h
  generalize UInt8.ofNat id'.size = b0 at q0 HBD
  generalize UInt8.ofNat bl.length = b1 at q1 HSE
  have HLIT := Lib.hid (OwnL.lits (f := byteC) (e := 5) (n := 1) W.heap.size W [b0] #[.int .u8 (id'.size : Nat)] W.heap.size 1 rfl (Nat.le_refl _) rfl (by decide) (by rw [q0.out]; rfl) rfl)
  go_wp2_with (first
    | (at_builtin
       have h9 := HO9.out
       refine wpList_appendL eByte (by rfl) (by rfl) W.heap.size out8 (sealB out8) _ _ (by rfl) (by rfl) (HO8.out.below HB89.out) (h9.row eByte) (by have := HL8.out; rw [sealB_len]; omega) (bthen HB8.out HB89.out).size ?_
       intro out10 A10 c10 w10 hout10 hown10 hg10 _
       have hb10 : Below W.heap.size W w10 := (bthen HB8.out HB89.out).trans (grown_own hg10 (HO8.out.below HB89.out) (bthen HB8.out HB89.out).size)
       have HO10 := Lib.hid hown10
       have HOUT10 := Lib.hid hout10
       have HB10 := Lib.hid hb10
       clear h9 hout10 hown10 hg10 hb10)
    | (at_builtin
       have h9 := HO7.out
       refine wpList_appendL eByte (by rfl) (by rfl) W.heap.size [b1] out7 (.slice (some ⟨w7.heap.size, 0, none⟩) 1 1) _ (by rfl) (by rfl) (OwnL.lits W.heap.size w7 [b1] _ w7.heap.size 1 rfl HB7.out.size rfl (by decide) (by rw [q1.out]; rfl) rfl) ((h9.row eByte).below (balloc (Below.refl _ _) _)) (by have := HL.out; simp; omega) (by have := HB7.out.size; simp; omega) ?_
       intro out8 A8 c8 w8 hout8 hown8 hg8 _
       have hb8 : Below W.heap.size W w8 := (balloc HB7.out _).trans (grown_own hg8 (OwnL.lits (f := byteC) (e := 5) (n := 1) W.heap.size w7 [b1] #[.int .u8 (out7.length : Nat)] w7.heap.size 1 rfl HB7.out.size rfl (by decide) (by rw [q1.out]; rfl) rfl) (by have := HB7.out.size; simp; omega))
       have HL8 := Lib.hid (show out8.length ≤ 92 by rw [hout8]; have := HL.out; simp; omega)
       have HO8 := Lib.hid hown8
       have HOUT8 := Lib.hid hout8
       have HB8 := Lib.hid hb8
       clear h9 hout8 hown8 hg8 hb8)
    | (at_builtin
       have h9 := HO6.out
       refine wpList_appendL eByte (by rfl) (by rfl) W.heap.size out4 (zputs nl) _ _ (by rfl) (by rfl) (HO4.out.below HB46.out) (h9.row eByte) (by have h1 := HL.out; have h2 := congrArg List.length HBD.out; have h3 := congrArg List.length HOUT4.out; simp at h2 h3; omega) (bthen HB4.out HB46.out).size ?_
       intro out7 A7 c7 w7 hout7 hown7 hg7 _
       have hb7 : Below W.heap.size W w7 := (bthen HB4.out HB46.out).trans (grown_own hg7 (HO4.out.below HB46.out) (bthen HB4.out HB46.out).size)
       obtain rfl : out7 = bl := (by rw [hout7, HOUT4.out, HBD.out]; rfl)
       have HO7 := Lib.hid hown7
       have HB7 := Lib.hid hb7
       clear h9 hout7 hown7 hg7 hb7)
    | (at_builtin
       refine wpList_appendS (by rfl) (by rfl) W.heap.size [b0] id' (.slice (some ⟨W.heap.size, 0, none⟩) 1 1) (by rfl) (by rfl) HLIT.out (by simp; omega) (by simp) ?_
       intro out4 A4 c4 w4 hout4 hown4 hg4
       have hb4 : Below W.heap.size W w4 := (balloc (Below.refl _ _) _).trans (grown_own hg4 HLIT.out (by simp))
       have a5 := (box_cells hb4 HX.out).1
       have HO4 := Lib.hid hown4
       have HOUT4 := Lib.hid hout4
       have HB4 := Lib.hid hb4
       clear hout4 hown4 hg4 hb4)
    | (go_at_call 26
       refine (HNU.out w4).mono ?_
       rintro e w5 ⟨A5, c5, rfl, ho5, hb5⟩
       have HO5 := Lib.hid ho5
       have HB5 := Lib.hid hb5
       clear ho5 hb5)
    | (go_at_call 25
       refine (zigPut_any _ nl w5 (HO5.out.row eNum) HI.out (by have := HIL.out; omega)).mono ?_
       rintro e w6 ⟨A6, c6, rfl, ho6, hb6⟩
       have HO6 := Lib.hid ho6
       have HB46 := Lib.hid (bthen HB5.out hb6)
       clear ho6 hb6)
    | (go_at_call 27
       refine (jsum_any _ out8 w8 (HO8.out.row eByte) (by have := HL8.out; omega)).mono ?_
       rintro e w9 ⟨A9, c9, rfl, ho9, hb89⟩
       have HO9 := Lib.hid ho9
       have HB89 := Lib.hid hb89
       clear ho9 hb89))
  go_ret2
  have h1 := HO10.out
  have e1 : out10 = sealP ⟨k', id', tick', val', handle', ⟨mn', mx', tg', tol', win', hold'⟩⟩ := by rw [HOUT10.out, HOUT8.out, HSE.out]; rfl
  rw [e1] at h1
  exact ⟨A10, c10, by rw [e1]; rfl, h1.lower HB.out.size, bthen HB.out HB10.out⟩
def BadSays (w : World) (x : Int) (e : Ending) (w' : World) : Prop := e = .returned (.tuple #[.slice none 0 0, .int .i64 x]) ∧ Below w.heap.size w w'
set_option maxRecDepth 100000 in
set_option maxHeartbeats 4000000 in
theorem jput_badc (c : CallD) (s : ByteArray) (x : Int) (w : World) (hT : ∀ W, Below w.heap.size w W → Calls Tryd.prog 23 #[callV c] W (TextSays W s x)) (hx : x ≠ 0) :
    Calls Tryd.prog 8 #[callV c] w (BadSays w x) := by
  unfold TextSays at hT
  have HTX := Lib.hid hT
  clear hT
  have q : (x == 0) = false := by simpa using hx
  obtain ⟨k, id, tick, val, handle, mn, mx, tg, tol, win, hold⟩ := c
  unfold callV at HTX ⊢
  dsimp only at HTX ⊢
  go_enter Tryd.func8, Tryd.ntmps8
  go_wp2_with (first
    | (go_at_call 23
       refine (HTX.out _ (balloc (Below.refl _ _) _)).mono ?_
       rintro e w2 ⟨rfl, hb2⟩))
  go_ret2
  exact ⟨rfl, bthen (balloc (Below.refl _ _) _) hb2⟩
theorem jput_ok (c : CallD) (w : World) (hc : c.ok) (ht : Tab w) (he : textE c = 0) : Calls Tryd.prog 8 #[callV c] w (PutSays w (putB c)) := by
  refine jput_core c (bareC c) (textS c) w (fun W hW => ?_) (fun W => bare_any c W) (bareC_ok hc) (bare_id he)
  have := ltext_any c W hc (ht.below hW)
  rwa [he] at this
theorem jput_bad (c : CallD) (w : World) (hc : c.ok) (ht : Tab w) (he : textE c ≠ 0) : Calls Tryd.prog 8 #[callV c] w (BadSays w (textE c)) :=
  jput_badc c (textS c) (textE c) w (fun W hW => ltext_any c W hc (ht.below hW)) he
end Go.Proofs.YtfnabpmdjfejbaaDoor
