/- Chapter 43's example; ReportTexts answers true. -/
import Derived.Test.YtfnabpmdjfejbaaDoorJEvents
namespace Go.Proofs.YtfnabpmdjfejbaaDoor
set_option linter.unusedSimpArgs false
set_option linter.unusedVariables false
open Go.RowKit Go.Lib

def evTook : EvtD := ⟨4, 2, 0, ⟨0, ⟨#[]⟩, 0, 0, 0, ⟨0, 0, 0, 0, 0, 0⟩⟩, 0, 0, 0, 0, 0, 0, 0, 0, 0, 0, 0, 0, 0, 252201579132747776, 0, 0, 0, 0, 0, 0⟩
theorem evTook_s : evS evTook = ⟨#[50, 32, 116, 111, 111, 107, 32, 97]⟩ := by kernel_rfl
theorem sum_none : sumS 0 0 [] false = ⟨#[117, 115, 101, 100, 32, 48, 32, 111, 112, 101, 110, 32, 48, 32, 119, 97, 105, 116, 105, 110, 103, 32, 45, 32, 114, 101, 115, 116, 32, 110, 111]⟩ := by kernel_rfl
theorem i64z : I64 0 := by unfold I64; omega
theorem evTook_ok : evTook.ok :=
  ⟨by unfold I64 evTook; dsimp only; omega, by unfold I64 evTook; dsimp only; omega, i64z, ⟨i64z, by decide, i64z, i64z, i64z, i64z, i64z, i64z, i64z, i64z, i64z⟩, ⟨i64z, i64z, i64z, i64z, i64z, i64z, i64z, i64z, i64z, i64z, i64z, i64z, i64z⟩, by decide, by decide, ⟨i64z, i64z, i64z, i64z, i64z⟩⟩

set_option maxRecDepth 100000 in
set_option maxHeartbeats 4000000 in
theorem awake43_any (w : World) (ht : Tab w) : Calls Tryd.prog 12 #[] w fun e w' => e = .returned (.bool true) ∧ Below w.heap.size w w' := by
  have CE := Lib.hid (show ∀ W, Below w.heap.size w W → Calls Tryd.prog 36 #[evV evTook] W fun x w' => x = .returned (.string ⟨#[50, 32, 116, 111, 111, 107, 32, 97]⟩) ∧ Below W.heap.size W w' from fun W h => by have := pevent_any evTook W evTook_ok (ht.below h); rwa [evTook_s] at this)
  have CS := Lib.hid (show ∀ W, Below w.heap.size w W → Calls Tryd.prog 16 #[outV (.slice none 0 0) 0 0 (.slice none 0 0) false] W fun x w' => x = .returned (.string ⟨#[117, 115, 101, 100, 32, 48, 32, 111, 112, 101, 110, 32, 48, 32, 119, 97, 105, 116, 105, 110, 103, 32, 45, 32, 114, 101, 115, 116, 32, 110, 111]⟩) ∧ Below W.heap.size W w' from fun W h => by have := psum_any (.slice none 0 0) (.slice none 0 0) 0 0 [] false W ⟨none, 0, rfl, fun h => absurd h (by decide)⟩ (fun p hp => by cases hp) (by decide) i64z i64z (ht.below h); rwa [sum_none] at this)
  unfold evV evTook at CE
  unfold outV at CS
  dsimp only at CE
  clear ht
  go_enter Tryd.func12, Tryd.ntmps12
  go_wp2_with (first
    | (go_at_call 36
       refine (CE.out _ (Below.refl _ _)).mono ?_
       rintro e w1 ⟨rfl, hb1⟩
       have HB1 := Lib.hid hb1
       clear hb1)
    | (go_at_call 16
       refine (CS.out _ HB1.out).mono ?_
       rintro e w2 ⟨rfl, hb1⟩
       have HB2 := Lib.hid (bthen HB1.out hb1)
       clear hb1))
  go_ret
  exact ⟨rfl, HB2.out⟩
theorem want_next (es : List EvtD) (k : Nat) (h : k < es.length) : (⟨(textL (es.take (k + 1))).toArray⟩ : ByteArray) = ⟨(textL (es.take k)).toArray⟩ ++ (evS es[k] ++ ⟨#[10]⟩) := by
  rw [textL_snoc es k h]
  apply bytes_ext
  simp [ByteArray.data_append]
theorem textO_cat (es : List EvtD) (used opn : Int) (l : List Ky) (rest : Bool) : textO es used opn l rest = ⟨(textL es).toArray⟩ ++ sumS used opn l rest ++ ⟨#[10]⟩ := by
  apply bytes_ext
  simp [textO, ByteArray.data_append]

set_option maxRecDepth 100000 in
set_option maxHeartbeats 8000000 in
theorem rep_texts (ev v : Value) (es : List EvtD) (used opn : Int) (l : List Ky) (rest : Bool) (w : World) (he : RowIn 34 evC w ev es) (heok : ∀ e ∈ es, e.ok) (hem : es.length ≤ maxLen) (hv : KeysIn w v l) (hok : ∀ p ∈ l, p.ok) (hlm : l.length ≤ maxLen) (hu : I64 used) (ho : I64 opn) (ht : Tab w) :
    Calls Tryd.prog 5 #[ev, .int .i64 used, .int .i64 opn, v, .bool rest] w fun e w' => e = .returned (.bool true) ∧ Below w.heap.size w w' := by
  obtain ⟨A, c, rfl, hAc, h0⟩ := id he
  obtain ⟨A', c', rfl, h0'⟩ := id hv
  clear h0 hAc h0'
  unfold maxLen at hem hlm
  have HAW := Lib.hid (awake43_any w ht)
  by_cases hel : es.length ≤ 40
  · by_cases hll : l.length ≤ 40
    · have HE := Lib.hid he
      have HEOK := Lib.hid heok
      have HV := Lib.hid hv
      have HT := Lib.hid ht
      have HEL := Lib.hid hel
      have CEV := Lib.hid (show ∀ W, Below w.heap.size w W → Calls Tryd.prog 13 #[.slice A es.length c] W fun e w' => ∃ u, e = .returned u ∧ RowIn 34 evC w' u es ∧ Below W.heap.size W w' from fun W h => events_any _ es W (he.below h) (by omega))
      have CRS := Lib.hid (show ∀ W, Below w.heap.size w W → Calls Tryd.prog 15 #[.int .i64 used, .int .i64 opn, .slice A' l.length c', .bool rest] W fun e w' => e = .returned (.string (sumS used opn l rest)) ∧ Below W.heap.size W w' from fun W h => rsum_any used opn _ l rest W (hv.below h) hok hll hu ho)
      have CPS := Lib.hid (show ∀ (B : Option Addr) (d : Nat) W, Below w.heap.size w W → Calls Tryd.prog 16 #[.agg #[.slice B es.length d, .int .i64 used, .int .i64 opn, .slice A' l.length c', .bool rest]] W fun e w' => e = .returned (.string (sumS used opn l rest)) ∧ Below W.heap.size W w' from fun B d W h => psum_any (.slice B es.length d) _ used opn l rest W (hv.below h) hok hll hu ho (ht.below h))
      have CPT := Lib.hid (show ∀ (B : Option Addr) (d : Nat) W, Below w.heap.size w W → RowIn 34 evC W (.slice B es.length d) es → Calls Tryd.prog 17 #[.agg #[.slice B es.length d, .int .i64 used, .int .i64 opn, .slice A' l.length c', .bool rest]] W fun e w' => e = .returned (.string (⟨(textL es).toArray⟩ ++ sumS used opn l rest ++ ⟨#[10]⟩)) ∧ Below W.heap.size W w' from fun B d W h hr => by
        have := ptext_any (.slice B es.length d) _ es used opn l rest W hr heok hel (hv.below h) hok hll hu ho (ht.below h)
        rwa [textO_cat] at this)
      have hss := sumS_size (rest := rest) hu ho hll
      generalize sumS used opn l rest = ss at CRS CPS CPT hss
      have HSS := Lib.hid hss
      have q1 : ¬ (40 : Int) < (es.length : Int) := by omega
      have q2 : ¬ (40 : Int) < (l.length : Int) := by omega
      clear he heok hv hok hu ho ht hss hel
      go_enter Tryd.func5, Tryd.ntmps5
      go_upto_region 6 with (first
        | (go_at_call 12
           refine HAW.out.mono ?_
           rintro e w1 ⟨rfl, hb1⟩
           have HB1 := Lib.hid hb1
           clear hb1)
        | (go_at_call 13
           refine (CEV.out w1 HB1.out).mono ?_
           rintro e w2 ⟨u, rfl, hr2, hb2⟩
           obtain ⟨B2, d2, rfl, _, _⟩ := id hr2
           have HR2 := Lib.hid hr2
           have HB2 := Lib.hid (bthen HB1.out hb2)
           clear hr2 hb2))
      refine name_world ?_
      intro W hW
      have hb3 : Below w2.heap.size w2 W := by rw [hW]; exact balloc (Below.refl _ _) _
      have hx3 : W.heap[w2.heap.size]? = some (.cells #[.slice B2 es.length d2, .int .i64 used, .int .i64 opn, .slice A' l.length c', .bool rest] 43 (0, 0)) := by rw [hW]; exact heap_alloc_new _ _
      have HB3 := Lib.hid (bthen HB2.out hb3)
      have HR3 := Lib.hid (HR2.out.below hb3)
      have HX3 := Lib.hid hx3
      clear hW hb3 hx3
      go_wp2_with fail
      go_loopg [12, 35] es.length (fun g s12 s35 wr => ∃ k : Nat, k ≤ es.length ∧ es.length - k ≤ g ∧ s35 = .int .i64 k ∧ s12 = .string ⟨(textL (es.take k)).toArray⟩ ∧ Below W.heap.size W wr)
      case atStart => exact ⟨0, Nat.zero_le _, Nat.le_refl _, rfl, rfl, Below.refl _ _⟩
      case round =>
        obtain ⟨k, hk, hg, rfl, rfl, hbw⟩ := hrel
        rename World => wr
        have HBr := Lib.hid (bthen HB3.out hbw)
        have HBw := Lib.hid hbw
        by_cases hlt : k < es.length
        · as_aux_lemma =>
            obtain ⟨b1, o1, rfl, hb1, hc⟩ := (HE.out.below HBr.out).at_ hlt
            have hcl : (evC es[k]).length = 34 := rfl
            have hone : ∀ v ∈ evC es[k], v.oneCell' = true := evC_one _
            have hek := HEOK.out _ (List.getElem_mem hlt)
            have HW2 := Lib.hid (want_next es k hlt)
            have hwz := textL_take es HEOK.out HEL.out k
            have hez := evS_size hek
            have hid : (evC es[k])[4]? = some (.string es[k].call.id) := rfl
            have himax : es[k].call.id.size ≤ maxLen := hek.call.2.1
            have CE := Lib.hid (show ∀ W, Calls Tryd.prog 14 #[.agg (evC es[k]).toArray] W fun x w' => x = .returned (.string (evS es[k])) ∧ Below W.heap.size W w' from fun W => revent_any es[k] W hek)
            rw [← bytes_size] at hwz
            generalize (⟨(textL (es.take k)).toArray⟩ : ByteArray) = wk at HW2 hwz ⊢
            generalize evS es[k] = ek at HW2 hez CE
            generalize es[k].call.id = sid at hid himax
            generalize evC es[k] = cs at hc hcl hone hid CE
            have hst := store_new (P := Tryd.prog) wr 54 cs 34 hcl (by kernel_rfl) hone
            have hid4 : ∀ h, cs[4]'h = .string sid := fun h => Option.some.inj ((List.getElem?_eq_getElem h).symm.trans hid)
            have HC := Lib.hid hc
            have HCL := Lib.hid hcl
            unfold maxLen at himax
            clear hc hcl hone hek hbw
            by_cases hsz : sid.size ≤ 100
            · have q3 : ¬ (100 : Int) < (sid.size : Int) := by omega
              go_wp2_with (first
                | (refine wpList_load_list rfl 54 (.tmp 37) rfl b1 (o1 + k * 34) cs HC.out (by rfl) _ Tryd.underlying54 (by rfl) (by rw [HCL.out]; kernel_rfl) ?_)
                | (refine wpList_load_list rfl 54 (.tmp 14) rfl wr.heap.size 0 cs (new_cells _ _ _) (by rfl) _ Tryd.underlying54 (by rfl) (by rw [HCL.out]; kernel_rfl) ?_)
                | (go_at_call 14
                   refine (CE.out _).mono ?_
                   rintro e w4 ⟨rfl, hb4⟩
                   have HB4 := Lib.hid (bthen (balloc (Below.refl _ _) _) hb4)
                   clear hb4))
              go_roundg (es.length - (k + 1))
              case measure => omega
              case rel => exact ⟨k + 1, hlt, Nat.le_refl _, by go_num, by rw [HW2.out], bthen HBw.out HB4.out⟩
            · have q3 : (100 : Int) < (sid.size : Int) := by omega
              go_wp2_with (first
                | (refine wpList_load_list rfl 54 (.tmp 37) rfl b1 (o1 + k * 34) cs HC.out (by rfl) _ Tryd.underlying54 (by rfl) (by rw [HCL.out]; kernel_rfl) ?_))
              go_ret
              exact ⟨rfl, balloc HBr.out _⟩
        · as_aux_lemma =>
            obtain rfl : k = es.length := by omega
            obtain ⟨a3, a3f, a3l, a3h⟩ := box_at hbw HX3.out
            have HRW := Lib.hid (HR3.out.below hbw)
            have hwz := textL_take es HEOK.out HEL.out es.length
            rw [List.take_length] at hwz ⊢
            have HX4 := Lib.hid a3h
            rw [← bytes_size] at hwz
            generalize (⟨(textL es).toArray⟩ : ByteArray) = wk at CPT hwz ⊢
            have hsz := HSS.out
            clear hbw a3h
            go_wp2_with (first
              | (go_at_call 15
                 refine (CRS.out wr HBr.out).mono ?_
                 rintro e w4 ⟨rfl, hb4⟩
                 obtain ⟨a4, a4f, a4l, a4h⟩ := box_at hb4 HX4.out
                 have HX5 := Lib.hid a4h
                 have HB4 := Lib.hid (bthen HBr.out hb4)
                 have HR4 := Lib.hid (HRW.out.below hb4)
                 clear hb4 a4h a3 a3f a3l)
              | (go_at_call 16
                 refine (CPS.out _ _ w4 HB4.out).mono ?_
                 rintro e w5 ⟨rfl, hb4⟩
                 obtain ⟨a5, a5f, a5l, a5h⟩ := box_at hb4 HX5.out
                 have HB5 := Lib.hid (bthen HB4.out hb4)
                 have HR5 := Lib.hid (HR4.out.below hb4)
                 clear hb4 a5h a4 a4f a4l)
              | (go_at_call 17
                 refine (CPT.out _ _ w5 HB5.out HR5.out).mono ?_
                 rintro e w6 ⟨rfl, hb4⟩
                 have HB6 := Lib.hid (bthen HB5.out hb4)
                 clear hb4))
            go_ret
            exact ⟨rfl, HB6.out⟩
    · have q1 : ¬ (40 : Int) < (es.length : Int) := by omega
      have q2 : (40 : Int) < (l.length : Int) := by omega
      clear he heok hv hok hu ho ht hel hll
      go_enter Tryd.func5, Tryd.ntmps5
      go_wp2_with (go_at_call 12; refine HAW.out.mono ?_; rintro e w1 ⟨rfl, hb1⟩; have HB1 := Lib.hid hb1; clear hb1)
      go_ret
      exact ⟨rfl, HB1.out⟩
  · have q1 : (40 : Int) < (es.length : Int) := by omega
    clear he heok hv hok hu ho ht hel
    go_enter Tryd.func5, Tryd.ntmps5
    go_wp2_with (go_at_call 12; refine HAW.out.mono ?_; rintro e w1 ⟨rfl, hb1⟩; have HB1 := Lib.hid hb1; clear hb1)
    go_ret
    exact ⟨rfl, HB1.out⟩
end Go.Proofs.YtfnabpmdjfejbaaDoor
