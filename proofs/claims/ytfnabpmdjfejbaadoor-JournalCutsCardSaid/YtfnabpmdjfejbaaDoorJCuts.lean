/- flywheellaw50.JournalCuts. -/
import Derived.Test.YtfnabpmdjfejbaaDoorJCutLaw
namespace Go.Proofs.YtfnabpmdjfejbaaDoor
set_option linter.unusedSimpArgs false
set_option linter.unusedVariables false
open Go.RowKit Go.Lib

set_option maxRecDepth 100000 in
set_option maxHeartbeats 8000000 in
theorem cuts_long (A : Option Addr) (n c : Nat) (cut : Int) (w : World) (hl : 20 < n) (hm : n ≤ maxLen) (hA : ∀ W, Below w.heap.size w W → Calls Tryd.prog 7 #[] W fun e w' => e = .returned (.bool true) ∧ Below W.heap.size W w') : Calls Tryd.prog 6 #[.slice A n c, .int .u16 cut] w fun e w' => e = .returned (.bool true) ∧ Below w.heap.size w w' := by
  have HA := Lib.hid hA
  unfold maxLen at hm
  clear hA
  go_enter Tryd.func6, Tryd.ntmps6
  go_wp2_with (first
    | (go_at_call 7
       refine (HA.out w (Below.refl _ _)).mono ?_
       rintro e w1 ⟨rfl, hb1⟩
       have HB1 := Lib.hid hb1
       clear hb1))
  go_ret
  exact ⟨rfl, HB1.out⟩

set_option maxRecDepth 100000 in
set_option maxHeartbeats 8000000 in
theorem cuts_walk (A : Option Addr) (l : List CallD) (c : Nat) (cut : Nat) (w : World) (hv : RowIn 11 callCells w (.slice A l.length c) l) (hok : ∀ x ∈ l, x.ok) (hl : l.length ≤ 20) (hcut : cut < 65536) (ht : Tab w) (hA : ∀ W, Below w.heap.size w W → Calls Tryd.prog 7 #[] W fun e w' => e = .returned (.bool true) ∧ Below W.heap.size W w') : Calls Tryd.prog 6 #[.slice A l.length c, .int .u16 (cut : Nat)] w fun e w' => e = .returned (.bool true) ∧ Below w.heap.size w w' := by
  have HA := Lib.hid hA
  have HV := Lib.hid hv
  have HOK := Lib.hid hok
  have HT := Lib.hid ht
  have HL := Lib.hid hl
  clear hA hv hok ht
  go_enter Tryd.func6, Tryd.ntmps6
  go_upto_region 9 with (first
    | (go_at_call 7
       refine (HA.out w (Below.refl _ _)).mono ?_
       rintro e w1 ⟨rfl, hb1⟩
       have HB1 := Lib.hid hb1
       clear hb1))
  refine name_world ?_
  intro W hW
  have k0 : W.heap[w1.heap.size]? = some (.cells #[.slice none 0 0, .int .i64 0] 62 (0, 0)) := by rw [hW]; exact heap_alloc_new _ _
  have hb0 : Below w1.heap.size w1 W := by rw [hW]; exact balloc (Below.refl _ _) _
  have HI := Lib.hid (show CutInv W w1.heap.size (.slice none 0 0) (.slice none 0 0) (.slice none 0 0) (flatP (mayC (l.take 0))) (mayC (l.take 0)).length (mayC (l.take 0)) (endsC (mayC (l.take 0))) from
    ⟨⟨k0, OwnL.nil _ _⟩, OwnL.nil _ _, OwnL.nil _ _, (fun r h => by cases h), (fun r h => by cases h), (fun r h => by cases h)⟩)
  have HB0 := Lib.hid hb0
  clear hW k0 hb0
  go_loopg [6, 7, 27] l.length (fun g s6 s7 s27 wr => ∃ (k : Nat) (vb : Value), k ≤ l.length ∧ l.length - k ≤ g ∧ s27 = .int .i64 k ∧ CutInv wr w1.heap.size vb s6 s7 (flatP (mayC (l.take k))) (mayC (l.take k)).length (mayC (l.take k)) (endsC (mayC (l.take k))) ∧ Below w1.heap.size w1 wr)
  case atStart => exact ⟨0, _, Nat.zero_le _, Nat.le_refl _, rfl, HI.out, HB0.out⟩
  case round =>
    obtain ⟨k, vb, hk, hg, rfl, hinv, hb⟩ := hrel
    by_cases hlt : k < l.length
    · obtain ⟨b, o, rfl, hbl, hc⟩ := calls_at HV.out hlt
      have hbw := bthen HB1.out hb
      obtain ⟨q0, q1, q2, q3, q4, q5, q6, q7, q8, q9, q10⟩ := hc wr hbw
      have hbl' := Nat.lt_of_lt_of_le hbl hbw.size
      have hxok := HOK.out _ (List.getElem_mem hlt)
      have HMT := Lib.hid (mayC_take hlt)
      have hml := mayC_len (l.take k)
      have hfl := flatP_len (mayC (l.take k)) (fun x hx => by have := mayC_ok (fun y hy => HOK.out y (List.mem_of_mem_take hy)) x hx; exact ⟨this.1, this.2.1⟩)
      rw [List.length_take] at hml
      have HBW := Lib.hid hbw
      have HB := Lib.hid hb
      obtain ⟨A6, c6, rfl⟩ := hinv.may.form
      obtain ⟨A7, c7, rfl⟩ := hinv.ends.form
      have HEL := Lib.hid (endsC_len (mayC (l.take k)))
      obtain ⟨x, hx⟩ : ∃ x, x = l[k] := ⟨_, rfl⟩
      rw [← hx] at q0 q1 q2 q3 q4 q5 q6 q7 q8 q9 q10 hxok HMT
      obtain ⟨m, hm⟩ : ∃ m, m = mayC (l.take k) := ⟨_, rfl⟩
      rw [← hm] at hinv HMT hml hfl HEL ⊢
      obtain ⟨en, hen⟩ : ∃ en, en = endsC m := ⟨_, rfl⟩
      rw [← hen] at hinv HEL ⊢
      obtain ⟨fl, hfe⟩ : ∃ fl, fl = flatP m := ⟨_, rfl⟩
      rw [← hfe] at hinv hfl
      have HEN := Lib.hid hen
      have HFE := Lib.hid hfe
      have HLM := Lib.hid (show m.length ≤ 20 ∧ fl.length ≤ 2000 by omega)
      have HINV := Lib.hid hinv
      have HJR := Lib.hid (show w1.heap.size < wr.heap.size from (Array.getElem?_eq_some_iff.1 hinv.log.1).1)
      clear hc hinv hml hfl hx hm hen hfe hbw
      by_cases h60 : 60 < x.id.size
      · go_wp2
        go_ret
        exact ⟨rfl, balloc HBW.out _⟩
      by_cases he : textE x = 0
      · rw [if_pos he] at HMT
        have HP := Lib.hid (rput_ok x · hxok he)
        have HAD := Lib.hid (fun W h hl => add_ok x w1.heap.size vb fl m.length W hxok (HT.out.below (w' := W) h) he hl (by have := HLM.out; omega) (by have := HLM.out; omega))
        have HRB := Lib.hid (rbare_any x)
        obtain ⟨pl, hpl⟩ : ∃ p, p = putB x := ⟨_, rfl⟩
        rw [← hpl] at HP HAD
        obtain ⟨y, hy⟩ : ∃ y, y = bareC x := ⟨_, rfl⟩
        rw [← hy] at HRB HMT
        have HY := Lib.hid hy
        have HPL := Lib.hid hpl
        unfold PutSays callV at HP
        unfold callV at HAD HRB
        clear he hxok hy hpl
        go_wp2_with (first
          | (at_builtin
             have h9 := HI5.out
             refine wpList_appendL eInt (by rfl) (by rfl) (w1.heap.size + 1) en [(pl.length : Int)] _ _ (by rfl) (by rfl) (h9.ends.below (balloc (Below.refl _ _) _)) (RowIn.lit (n := 1) (f := numC) w5 (pl.length : Int) _ _ w5.heap.size rfl rfl) (by have := HEL.out; have := HLM.out; simp; omega) (by have := HJ5.out; simp; omega) ?_
             intro out6 A9 c9 w6 hout6 hown6 hg6 hor6
             have hj := (h9.below (balloc (Below.refl _ _) (.cells #[.int .i64 (pl.length : Nat)] 3))).grow7 hown6 hg6 hor6
             have hb6 : Below w1.heap.size w1 w6 := (balloc' HB5.out (Nat.le_of_lt HJ5.out) _).trans (grown_own hg6 (h9.ends.lower (Nat.le_succ _)) (by have := HJ5.out; simp; omega))
             have HI6 := Lib.hid hj
             have HB6 := Lib.hid hb6
             have HO6 := Lib.hid hout6
             clear h9 hout6 hown6 hg6 hor6 hj hb6)
          | (at_builtin
             have h9 := HI4.out
             refine wpList_appendL eCall (by rfl) (by rfl) (w1.heap.size + 1) m [y] _ _ (by rfl) (by rfl) (h9.may.below (balloc (Below.refl _ _) _)) (RowIn.lit (n := 11) (f := callCells) w4 y _ _ w4.heap.size rfl rfl) (by have := HLM.out; simp; omega) (by have := HJ4.out; simp; omega) ?_
             intro out5 A5 c5 w5 hout5 hown5 hg5 hor5
             have hj := (h9.below (balloc (Below.refl _ _) (.cells #[.int .i64 y.kind, .string y.id, .int .i64 y.tick, .int .i64 y.val, .int .i64 y.handle, .int .i64 y.pol.mn, .int .i64 y.pol.mx, .int .i64 y.pol.tg, .int .i64 y.pol.tol, .int .i64 y.pol.win, .int .i64 y.pol.hold] 25))).grow6 hown5 hg5 hor5
             have hb5 : Below w1.heap.size w1 w5 := (balloc' HB4.out (Nat.le_of_lt HJ4.out) _).trans (grown_own hg5 (h9.may.lower (Nat.le_succ _)) (by have := HJ4.out; simp; omega))
             have HI5 := Lib.hid hj
             have HB5 := Lib.hid hb5
             have HJ5 := Lib.hid (show w1.heap.size < w5.heap.size from (Array.getElem?_eq_some_iff.1 hj.log.1).1)
             have HO5 := Lib.hid hout5
             clear h9 hout5 hown5 hg5 hor5 hj hb5)
          | (go_at_call 18
             refine calls_named ?_
             intro W1 hW1
             have hb1 : Below wr.heap.size wr W1 := by rw [hW1]; exact balloc (Below.refl _ _) _
             have hx1 : W1.heap[wr.heap.size]? = some (.cells #[.int .i64 x.kind, .string x.id, .int .i64 x.tick, .int .i64 x.val, .int .i64 x.handle, .int .i64 x.pol.mn, .int .i64 x.pol.mx, .int .i64 x.pol.tg, .int .i64 x.pol.tol, .int .i64 x.pol.win, .int .i64 x.pol.hold] 25 (0, 0)) := by rw [hW1]; exact heap_alloc_new _ _
             clear hW1
             have hi1 := HINV.out.below hb1
             refine (HAD.out W1 (bthen HBW.out hb1) hi1.log).mono ?_
             rintro e w2 ⟨vb2, rfl, hl2, ht2, ho2⟩
             have hnm : wr.heap.size ∉ (w1.heap.size :: vb.ownBlock.toList) := fun hm => by
               rcases List.mem_cons.1 hm with e | e
               · have := HJR.out; omega
               · have := HINV.out.log.2.lt (r := wr.heap.size) (by simpa using e); omega
             have hx2 := (ht2.block wr.heap.size (Array.getElem?_eq_some_iff.1 hx1).1 hnm).trans hx1
             obtain ⟨a2, a2f, a2l, a2h⟩ := box_at (Below.refl _ _) hx2
             have hb2 : Below w1.heap.size W1 w2 := ht2.below (by have := hb1.size; have := HJR.out; omega) (fun r hr => by
               rcases List.mem_cons.1 hr with e | e
               · omega
               · have := (hi1.log.2.lt (r := r) (by simpa using e)).1; omega)
             have HX2 := Lib.hid a2h
             have HI2 := Lib.hid (hi1.add hl2 ht2 ho2)
             have HB2 := Lib.hid ((HB.out.trans (hb1.mono (Nat.le_of_lt HJR.out))).trans hb2)
             clear hb1 hx1 hi1 hl2 ht2 ho2 hnm hx2 a2h hb2)
          | (go_at_call 9
             refine (HP.out w2).mono ?_
             rintro e w3 ⟨A3, c3, rfl, _, hb3⟩
             obtain ⟨a3, a3f, a3l, a3h⟩ := box_at hb3 HX2.out
             have HX3 := Lib.hid a3h
             have HI3 := Lib.hid (HI2.out.below hb3)
             have HB3 := Lib.hid (HB2.out.trans (hb3.mono HB2.out.size))
             clear hb3 a3h)
          | (go_at_call 11
             refine (HRB.out w3).mono ?_
             rintro e w4 ⟨rfl, hb4⟩
             have hi4 := HI3.out.below hb4
             have HI4 := Lib.hid hi4
             have HJ4 := Lib.hid (show w1.heap.size < w4.heap.size from (Array.getElem?_eq_some_iff.1 hi4.log.1).1)
             have HB4 := Lib.hid (HB3.out.trans (hb4.mono HB3.out.size))
             clear hb4 hi4))
        go_roundg (l.length - (k + 1))
        case measure => omega
        case rel =>
          have e5 := HO5.out
          have e6 := HO6.out
          have hi := HI6.out
          rw [e5, e6] at hi
          refine ⟨k + 1, vb2, hlt, Nat.le_refl _, by go_num, ?_, HB6.out⟩
          rw [HMT.out, HY.out, flatP_snoc, endsC_snoc, List.length_append, List.length_singleton, ← HFE.out, ← HEN.out, ← HPL.out, ← HY.out]
          first
            | exact hi
            | (rw [e5, e6]; exact hi)
      · rw [if_neg he, List.append_nil] at HMT
        have HP := Lib.hid (rput_bad x · hxok he)
        have HAD := Lib.hid (fun W h hl => add_bad x w1.heap.size W hxok (HT.out.below (w' := W) h) he hl)
        generalize textE x = ex at he HP HAD
        have qx : (ex == 0) = false := by simpa using he
        have qx2 : decide (ex = 0) = false := by simpa using he
        have qx3 : (ex != 0) = true := by simpa using he
        unfold BadSays callV at HP
        unfold callV at HAD
        clear hxok
        go_wp2_with (first
          | (go_at_call 18
             refine calls_named ?_
             intro W1 hW1
             have hb1 : Below wr.heap.size wr W1 := by rw [hW1]; exact balloc (Below.refl _ _) _
             have hx1 : W1.heap[wr.heap.size]? = some (.cells #[.int .i64 x.kind, .string x.id, .int .i64 x.tick, .int .i64 x.val, .int .i64 x.handle, .int .i64 x.pol.mn, .int .i64 x.pol.mx, .int .i64 x.pol.tg, .int .i64 x.pol.tol, .int .i64 x.pol.win, .int .i64 x.pol.hold] 25 (0, 0)) := by rw [hW1]; exact heap_alloc_new _ _
             clear hW1
             refine (HAD.out W1 (bthen HBW.out hb1) (Nat.lt_of_lt_of_le HJR.out hb1.size)).mono ?_
             rintro e w2 ⟨rfl, hb2⟩
             obtain ⟨a2, a2f, a2l, a2h⟩ := box_at hb2 hx1
             have HB2 := Lib.hid (bthen hb1 hb2)
             clear hb1 hx1 a2h hb2)
          | (go_at_call 9
             refine (HP.out w2).mono ?_
             rintro e w3 ⟨rfl, hb3⟩
             have HB3 := Lib.hid (bthen HB2.out hb3)
             clear hb3))
        go_roundg (l.length - (k + 1))
        case measure => omega
        case rel =>
          refine ⟨k + 1, vb, hlt, Nat.le_refl _, by go_num, ?_, HB.out.trans (HB3.out.mono HB.out.size)⟩
          rw [HMT.out, ← HEN.out, ← HFE.out]
          exact HINV.out.below HB3.out
    · obtain rfl : k = l.length := by omega
      rw [List.take_length] at hinv
      obtain ⟨A6, c6, rfl⟩ := hinv.may.form
      obtain ⟨A7, c7, rfl⟩ := hinv.ends.form
      have hmok := mayC_ok HOK.out
      have hml := mayC_len l
      obtain ⟨m, hm⟩ : ∃ m, m = mayC l := ⟨_, rfl⟩
      rw [← hm] at hinv hmok hml ⊢
      have hfl := flatP_len m (fun x hx => ⟨(hmok x hx).1, (hmok x hx).2.1⟩)
      obtain ⟨fl, hfe⟩ : ∃ fl, fl = flatP m := ⟨_, rfl⟩
      rw [← hfe] at hinv hfl
      have hel := endsC_len m
      obtain ⟨en, hen⟩ : ∃ en, en = endsC m := ⟨_, rfl⟩
      rw [← hen] at hinv hel ⊢
      have HMOK := Lib.hid hmok
      have HFE := Lib.hid hfe
      have HEN := Lib.hid hen
      have HEL := Lib.hid hel
      have HML := Lib.hid (show m.length ≤ 20 ∧ fl.length ≤ 2000 by omega)
      have HLOG := Lib.hid hinv.log
      have HMAY := Lib.hid (hinv.may.row eCall)
      have HEND := Lib.hid (hinv.ends.row eInt)
      have HBW := Lib.hid (bthen HB1.out hb)
      clear hinv hb hmok hml hfl hm hfe hen hel hg hk hlt
      go_upto_region 22 with (go_at_call 19
                              refine (bytes_log w1.heap.size vb fl m.length wr HLOG.out (by have := HML.out; omega)).mono ?_
                              rintro e w2 ⟨A2, c2, rfl, ho2, hb2⟩
                              have HALL := Lib.hid (ho2.row eByte)
                              have HLOG2 := Lib.hid (HLOG.out.below hb2)
                              have HMAY2 := Lib.hid (HMAY.out.below hb2)
                              have HEND2 := Lib.hid (HEND.out.below hb2)
                              have HB2 := Lib.hid (bthen HBW.out hb2)
                              clear ho2 hb2)
      refine wp_region_held_drew (S := fun U => Below w2.heap.size w2 U) (by kernel_rfl) ?hS1 (fun hHeld => ?_)
      case hS1 => first | with_reducible exact HB4.out | with_reducible exact HB3.out | with_reducible exact Below.refl _ _ | with_reducible exact (Below.refl _ _).drew
      refine wpAnyH_take (i := 1) (v := ?v2) rfl (by kernel_rfl) (by kernel_rfl) (by kernel_rfl) (fun _ _ _ h => h) (Or.inl ⟨by rfl, ?hy2⟩) (by assumption) ?_
      case hy2 =>
        intro w' hSw
        (try dsimp only at hSw)
        go_simp
        try (with_reducible rfl)
      try simp only [Act.put, List.getElem_toArray, List.getElem_cons_succ, List.getElem_cons_zero, List.setIfInBounds_toArray, List.set_cons_zero, List.set_cons_succ]
      refine wpAnyH_take (i := 2) (v := ?v3) rfl (by kernel_rfl) (by kernel_rfl) (by kernel_rfl) (fun _ _ _ h => h) (Or.inl ⟨by rfl, ?hy3⟩) (by assumption) ?_
      case hy3 =>
        intro w' hSw
        (try dsimp only at hSw)
        go_simp
        try (with_reducible rfl)
      try simp only [Act.put, List.getElem_toArray, List.getElem_cons_succ, List.getElem_cons_zero, List.setIfInBounds_toArray, List.set_cons_zero, List.set_cons_succ]
      refine wpAnyH_ready (rs := [0]) (by kernel_rfl) (by simp) ?_
      refine AllReadyH.cons rfl (fun K hK => ?_) AllReadyH.nil
      go_simp
      go_at_call 20
      refine calls_named ?_
      intro W3 hW3
      have hb3 : Below w2.heap.size w2 W3 := by rw [hW3]; first | exact Below.refl _ _ | exact (Below.refl _ _).drew
      clear hW3
      refine (len_log w1.heap.size vb fl m.length W3 (HLOG2.out.below hb3)).mono ?_
      rintro e w3 ⟨rfl, hw3⟩
      have HB3 := Lib.hid (show Below w2.heap.size w2 w3 by rw [hw3]; exact hb3)
      clear hb3 hw3
      try go_simp
      refine hK.out _ _ ?hS4 (fun hHeld2 => ?_)
      case hS4 => first | with_reducible exact HB4.out | with_reducible exact HB3.out | with_reducible exact Below.refl _ _ | with_reducible exact (Below.refl _ _).drew
      clear hK K hHeld
      have hHeld := hHeld2
      clear hHeld2
      try simp only [Act.put, List.getElem_toArray, List.getElem_cons_succ, List.getElem_cons_zero, List.setIfInBounds_toArray, List.set_cons_zero, List.set_cons_succ]
      refine wpAnyH_take (i := 3) (v := ?v5) rfl (by kernel_rfl) (by kernel_rfl) (by kernel_rfl) (fun _ _ _ h => h) (Or.inl ⟨by rfl, ?hy5⟩) (by assumption) ?_
      case hy5 =>
        intro w' hSw
        (try dsimp only at hSw)
        go_simp
        try (with_reducible rfl)
      try simp only [Act.put, List.getElem_toArray, List.getElem_cons_succ, List.getElem_cons_zero, List.setIfInBounds_toArray, List.set_cons_zero, List.set_cons_succ]
      refine wpAnyH_take (i := 4) (v := ?v6) rfl (by kernel_rfl) (by kernel_rfl) (by kernel_rfl) (fun _ _ _ h => h) (Or.inl ⟨by rfl, ?hy6⟩) (by assumption) ?_
      case hy6 =>
        intro w' hSw
        (try dsimp only at hSw)
        go_simp
        try (with_reducible rfl)
      try simp only [Act.put, List.getElem_toArray, List.getElem_cons_succ, List.getElem_cons_zero, List.setIfInBounds_toArray, List.set_cons_zero, List.set_cons_succ]
      refine wpAnyH_take (i := 5) (v := ?v7) rfl (by kernel_rfl) (by kernel_rfl) (by kernel_rfl) (fun _ _ _ h => h) (Or.inl ⟨by rfl, ?hy7⟩) (by assumption) ?_
      case hy7 =>
        intro w' hSw
        (try dsimp only at hSw)
        go_simp
        try (with_reducible rfl)
      try simp only [Act.put, List.getElem_toArray, List.getElem_cons_succ, List.getElem_cons_zero, List.setIfInBounds_toArray, List.set_cons_zero, List.set_cons_succ]
      refine wpAnyH_take (i := 6) (v := ?v8) rfl (by kernel_rfl) (by kernel_rfl) (by kernel_rfl) (fun _ _ _ h => h) (Or.inl ⟨by rfl, ?hy8⟩) (by assumption) ?_
      case hy8 =>
        intro w' hSw
        (try dsimp only at hSw)
        have s1 := bytes_str (HALL.out.below hSw)
        go_simp
        try (with_reducible rfl)
      try simp only [Act.put, List.getElem_toArray, List.getElem_cons_succ, List.getElem_cons_zero, List.setIfInBounds_toArray, List.set_cons_zero, List.set_cons_succ]
      refine wpAnyH_take (i := 7) (v := ?v9) rfl (by kernel_rfl) (by kernel_rfl) (by kernel_rfl) (fun _ _ _ h => h) (Or.inl ⟨by rfl, ?hy9⟩) (by assumption) ?_
      case hy9 =>
        intro w' hSw
        (try dsimp only at hSw)
        go_simp
        try (with_reducible rfl)
      try simp only [Act.put, List.getElem_toArray, List.getElem_cons_succ, List.getElem_cons_zero, List.setIfInBounds_toArray, List.set_cons_zero, List.set_cons_succ]
      refine wpAnyH_ready (rs := [8]) (by kernel_rfl) (by simp) ?_
      refine AllReadyH.cons rfl (fun K hK => ?_) AllReadyH.nil
      go_simp
      go_at_call 21
      refine (rall_any _ m w3 (HMAY2.out.below HB3.out) (fun x hx => ⟨(HMOK.out x hx).1, (HMOK.out x hx).2.1⟩) (by have := HML.out; omega)).mono ?_
      rw [← HFE.out]
      rintro e w4 ⟨A4, c4, rfl, ho4, hb4⟩
      have s2 := bytes_str (ho4.row eByte)
      have HB4 := Lib.hid (bthen HB3.out hb4)
      clear ho4 hb4
      try go_simp
      refine hK.out _ _ ?hS10 (fun hHeld2 => ?_)
      case hS10 => first | with_reducible exact HB4.out | with_reducible exact HB3.out | with_reducible exact Below.refl _ _ | with_reducible exact (Below.refl _ _).drew
      clear hK K hHeld
      have hHeld := hHeld2
      clear hHeld2
      try simp only [Act.put, List.getElem_toArray, List.getElem_cons_succ, List.getElem_cons_zero, List.setIfInBounds_toArray, List.set_cons_zero, List.set_cons_succ]
      refine wpAnyH_ready (rs := [9]) (by kernel_rfl) (by simp) ?_
      refine AllReadyH.cons rfl (fun K hK => ?_) AllReadyH.nil
      go_simp
      skip
      try go_simp
      refine hK.out _ _ ?hS11 (fun hHeld2 => ?_)
      case hS11 => first | with_reducible exact HB4.out | with_reducible exact HB3.out | with_reducible exact Below.refl _ _ | with_reducible exact (Below.refl _ _).drew
      clear hK K hHeld
      have hHeld := hHeld2
      clear hHeld2
      try simp only [Act.put, List.getElem_toArray, List.getElem_cons_succ, List.getElem_cons_zero, List.setIfInBounds_toArray, List.set_cons_zero, List.set_cons_succ]
      refine wpAnyH_take (i := 10) (v := ?v12) rfl (by kernel_rfl) (by kernel_rfl) (by kernel_rfl) (fun _ _ _ h => h) (Or.inl ⟨by rfl, ?hy12⟩) (by assumption) ?_
      case hy12 =>
        intro w' hSw
        (try dsimp only at hSw)
        go_simp
        try (with_reducible rfl)
      try simp only [Act.put, List.getElem_toArray, List.getElem_cons_succ, List.getElem_cons_zero, List.setIfInBounds_toArray, List.set_cons_zero, List.set_cons_succ]
      refine wpAnyH_take (i := 11) (v := ?v13) rfl (by kernel_rfl) (by kernel_rfl) (by kernel_rfl) (fun _ _ _ h => h) (Or.inl ⟨by rfl, ?hy13⟩) (by assumption) ?_
      case hy13 =>
        intro w' hSw
        (try dsimp only at hSw)
        go_simp
        try (with_reducible rfl)
      try simp only [Act.put, List.getElem_toArray, List.getElem_cons_succ, List.getElem_cons_zero, List.setIfInBounds_toArray, List.set_cons_zero, List.set_cons_succ]
      refine wpAnyH_done (by kernel_rfl) ?_ _
      clear hHeld
      obtain ⟨kk, hkk⟩ : ∃ kk, kk = cut % (fl.length + 1) := ⟨_, rfl⟩
      have hkle : kk ≤ fl.length := by rw [hkk]; exact Nat.le_of_lt_succ (Nat.mod_lt _ (by omega))
      have qk : (cut : Int) % ((fl.length : Int) + 1) = (kk : Nat) := by rw [hkk]; simp [Int.natCast_emod]
      obtain ⟨ft, A5, c5, hft, hr5, ho5⟩ := row_to eByte HALL.out kk hkle
      have hrd : readB ft = cutR m kk := by rw [hft, HFE.out]; exact read_cut m kk HMOK.out
      have HRD := Lib.hid (fun W (h : Below w2.heap.size w2 W) => read_any (.slice A5 ft.length c5) ft W (ho5.below h) (by rw [hft]; have := HML.out; simp; omega) (HT.out.below (bthen HB2.out h)))
      rw [hrd] at HRD
      have HST := Lib.hid (CutAt.start m kk)
      generalize cutR m kk = r at HRD HST
      obtain ⟨got, nn⟩ := r
      unfold ReadSays at HRD
      dsimp only at HRD HST
      have hk2 : kk ≤ 2000 := by have := HML.out; omega
      have hfl0 : ((fl.length : Int) + 1 == 0) = false := by simp; omega
      have hfl1 : (fl.length : Int) + 1 ≠ 0 := by omega
      have hfl2 : (fl.length : Int) ≤ 2000 := by have := HML.out; omega
      clear hkk ho5 hft hrd hkle s2
      go_wp2_with (go_at_call 22
                   refine (HRD.out w4 HB4.out).mono ?_
                   rintro e w6 ⟨A8, c8, rfl, ho6, hb6⟩
                   have hb26 := bthen HB4.out hb6
                   have HGOT := Lib.hid (ho6.row eCall)
                   have HMAY6 := Lib.hid (HMAY2.out.below hb26)
                   have HEND6 := Lib.hid (HEND2.out.below hb26)
                   have HB6 := Lib.hid (bthen HB2.out hb26)
                   clear ho6 hb6 hb26)
      clear qk hfl0 hfl1 hfl2 hr5
      go_loopg [17, 86] m.length (fun g s17 s86 wx => ∃ i a : Nat, m.length - i ≤ g ∧ s86 = .int .i64 i ∧ s17 = .int .i64 a ∧ CutAt m kk got nn i a ∧ Below w6.heap.size w6 wx)
      case atStart => exact ⟨0, 0, Nat.le_refl _, rfl, rfl, HST.out, Below.refl _ _⟩
      case round =>
        rename World => wx
        obtain ⟨i, a, hg, rfl, rfl, hat, hb⟩ := hrel
        have hak := hat.1
        have him := hat.2.1
        have hi9 : i ≤ 20 := by have := HML.out; omega
        have HBX := Lib.hid (bthen HB6.out hb)
        by_cases hlt : i < m.length
        · obtain ⟨b, o, rfl, hbl, hc⟩ := calls_at HMAY6.out hlt
          obtain ⟨q0, q1, q2, q3, q4, q5, q6, q7, q8, q9, q10⟩ := hc wx hb
          have hbl' := Nat.lt_of_lt_of_le hbl hb.size
          have hie : i < en.length := by rw [HEL.out]; exact hlt
          obtain ⟨b7, o7, rfl, hb7, hc7⟩ := HEND6.out.at_ hie
          have e7 := (hb.cell (p := ⟨b7, _, none⟩) hb7).trans (hc7 0 _ rfl)
          rw [Nat.add_zero, Nat.mul_one] at e7
          have hb7' := Nat.lt_of_lt_of_le hb7 hb.size
          have hx := HMOK.out _ (List.getElem_mem hlt)
          have hp1 := putB_len m[i]
          have hp2 := bodyB_len (bareC_ok hx.1) (bare_id hx.2.1)
          have hei : en[i] = ((putB m[i]).length : Int) := by simp [HEN.out, endsC]
          rw [hei] at e7
          have hstop := fun h => hat.stop hlt h
          have hnext := fun h => hat.next hlt h
          obtain ⟨y, hy⟩ : ∃ y, y = m[i] := ⟨_, rfl⟩
          rw [← hy] at q0 q1 q2 q3 q4 q5 q6 q7 q8 q9 q10 hstop hp1 hp2 e7
          have hnext2 : ¬ kk < a + (putB y).length → ∃ hg : i < got.length, got[i] = y ∧ CutAt m kk got nn (i + 1) (a + (putB y).length) := by rw [hy]; exact hnext
          obtain ⟨p, hp⟩ : ∃ p, p = (putB y).length := ⟨_, rfl⟩
          rw [← hp] at hstop hp1 hnext2 e7
          have hp3 : p ≤ 100 := by omega
          clear hc hc7 hx hp1 hp2 hei hnext hy hp hat
          by_cases hkp : kk < a + p
          · obtain ⟨e1, e2⟩ := hstop hkp
            have hki : (kk : Int) < (a : Int) + (p : Int) := by omega
            have HE1 := Lib.hid e1
            subst e2
            have e1i : (got.length : Int) = (i : Int) := by omega
            clear hstop hnext2 hkp e1
            go_wp2
            go_ret
            exact ⟨by first | rfl | simp [HE1.out], balloc HBX.out _⟩
          · obtain ⟨hg', e3, hnx⟩ := hnext2 hkp
            obtain ⟨b8, o8, rfl, hb8, hc8⟩ := calls_at HGOT.out hg'
            rw [e3] at hc8
            have hki : ¬ (kk : Int) < (a : Int) + (p : Int) := by omega
            have HNX := Lib.hid hnx
            have HC8 := Lib.hid hc8
            clear hstop hnext2 hkp hnx hc8 e3
            go_upto_region 32 with fail
            refine name_world ?_
            intro W hW
            have hbw : Below wx.heap.size wx W := by rw [hW]; exact balloc (Below.refl _ _) _
            have hxw : W.heap[wx.heap.size]? = some (.cells #[.int .i64 y.kind, .string y.id, .int .i64 y.tick, .int .i64 y.val, .int .i64 y.handle, .int .i64 y.pol.mn, .int .i64 y.pol.mx, .int .i64 y.pol.tg, .int .i64 y.pol.tol, .int .i64 y.pol.win, .int .i64 y.pol.hold] 25 (0, 0)) := by rw [hW]; exact heap_alloc_new _ _
            obtain ⟨a0, a0f, a0l, _⟩ := box_at (Below.refl _ _) hxw
            obtain ⟨p0, p1, p2, p3, p4, p5, p6, p7, p8, p9, p10⟩ := HC8.out W (bthen hb hbw)
            have hb8' := Nat.lt_of_lt_of_le hb8 (bthen hb hbw).size
            have e7w := (hbw.cell (p := ⟨b7, _, none⟩) hb7').trans e7
            have hb7w := Nat.lt_of_lt_of_le hb7' hbw.size
            have hd : decide ((got.length : Int) ≤ (i : Int)) = false := by rw [decide_eq_false_iff_not]; omega
            have hgi : (i : Int) < (got.length : Int) := by omega
            have HBW2 := Lib.hid (bthen hb hbw)
            clear hW hxw hbw q0 q1 q2 q3 q4 q5 q6 q7 q8 q9 q10 e7
            go_quiet (fail)
            go_wp2
            go_roundg (m.length - (i + 1))
            case measure => omega
            case rel => exact ⟨i + 1, a + p, Nat.le_refl _, by go_num, by go_num, HNX.out, below_drewN HBW2.out _⟩
        · obtain rfl : i = m.length := by omega
          obtain ⟨e1, e2⟩ := hat.done
          subst e2
          have e1i : (got.length : Int) = (m.length : Int) := by omega
          clear hat
          go_wp2
          go_ret
          exact ⟨by first | rfl | simp [e1], HBX.out⟩
theorem cuts_all (v : Value) (l : List CallD) (n : Int) (w : World) (hv : RowIn 11 callCells w v l) (hok : ∀ x ∈ l, x.ok) (hl : l.length ≤ maxLen) (hn : (Lit.int .u16 n).wf = true) (ht : Tab w) : Calls Tryd.prog 6 #[v, .int .u16 n] w fun e w' => e = .returned (.bool true) ∧ Below w.heap.size w w' := by
  obtain ⟨A, c, rfl⟩ := hv.form
  have hA := fun W h => awake50_any W (ht.below (w' := W) h)
  have h2 : 0 ≤ n ∧ n ≤ 65535 := by simpa [Lit.wf, IntKind.min, IntKind.max, IntKind.signed, IntKind.bits] using hn
  by_cases h6 : 20 < l.length
  · exact cuts_long A _ c n w h6 hl hA
  · obtain ⟨k, rfl⟩ : ∃ k : Nat, n = (k : Int) := ⟨n.toNat, by omega⟩
    exact cuts_walk A l c k w hv hok (by omega) (by omega) ht hA
end Go.Proofs.YtfnabpmdjfejbaaDoor
