/- report.Text. -/
import Derived.Test.YtfnabpmdjfejbaaDoorJPSum
import Derived.Test.YtfnabpmdjfejbaaDoorJText2
import Derived.Test.YtfnabpmdjfejbaaDoorRow
import Derived.Test.YtfnabpmdjfejbaaDoorBig
namespace Go.Proofs.YtfnabpmdjfejbaaDoor
set_option linter.unusedSimpArgs false
set_option linter.unusedVariables false
open Go.RowKit Go.Lib

def textL (es : List EvtD) : List UInt8 := es.flatMap fun e => (evS e).data.toList ++ [10]
theorem textL_snoc (es : List EvtD) (k : Nat) (h : k < es.length) : textL (es.take (k + 1)) = textL (es.take k) ++ (evS es[k]).data.toList ++ [10] := by
  unfold textL
  rw [List.take_succ_eq_append_getElem h, List.flatMap_append, List.append_assoc]
  congr 1
  simp
theorem textL_len (es : List EvtD) (h : ∀ e ∈ es, e.ok) : (textL es).length ≤ 5001 * es.length := by
  induction es with
  | nil => simp [textL]
  | cons e es ih =>
    have h1 := ih (fun x hx => h x (List.mem_cons_of_mem _ hx))
    have h2 := evS_size (h e (List.mem_cons_self ..))
    have h3 : (evS e).data.toList.length = (evS e).size := by simp
    have : textL (e :: es) = ((evS e).data.toList ++ [10]) ++ textL es := rfl
    rw [this, List.length_append, List.length_append, h3]
    simp only [List.length_cons, List.length_nil] at h1 ⊢
    omega
theorem textL_take (es : List EvtD) (h : ∀ e ∈ es, e.ok) (hl : es.length ≤ 40) (k : Nat) : (textL (es.take k)).length ≤ 200040 := by
  have h1 := textL_len (es.take k) (fun e he => h e (List.mem_of_mem_take he))
  have : (es.take k).length ≤ 40 := by rw [List.length_take]; omega
  have h3 : 5001 * (es.take k).length ≤ 5001 * 40 := Nat.mul_le_mul_left _ this
  omega
theorem evC_one (e : EvtD) : ∀ v ∈ evC e, v.oneCell' = true := by
  intro v hv
  unfold evC at hv
  simp only [List.mem_cons, List.not_mem_nil, or_false] at hv
  rcases hv with rfl | rfl | rfl | rfl | rfl | rfl | rfl | rfl | rfl | rfl | rfl | rfl | rfl | rfl | rfl | rfl | rfl | rfl | rfl | rfl | rfl | rfl | rfl | rfl | rfl | rfl | rfl | rfl | rfl | rfl | rfl | rfl | rfl | rfl <;> rfl
theorem bytes_list (s : ByteArray) : s = ⟨s.data.toList.toArray⟩ := bytes_ext (by simp)
def textO (es : List EvtD) (used opn : Int) (l : List Ky) (rest : Bool) : ByteArray := ⟨(textL es ++ (sumS used opn l rest).data.toList ++ [10]).toArray⟩

set_option maxRecDepth 100000 in
set_option maxHeartbeats 8000000 in
theorem ptext_any (evs v : Value) (es : List EvtD) (used opn : Int) (l : List Ky) (rest : Bool) (w : World) (he : RowIn 34 evC w evs es) (heok : ∀ e ∈ es, e.ok) (hel : es.length ≤ 40) (hv : KeysIn w v l) (hok : ∀ p ∈ l, p.ok) (hl : l.length ≤ 40) (hu : I64 used) (ho : I64 opn) (ht : Tab w) :
    Calls Tryd.prog 17 #[outV evs used opn v rest] w fun e w' => e = .returned (.string (textO es used opn l rest)) ∧ Below w.heap.size w w' := by
  obtain ⟨A, c, rfl, hAc, h0⟩ := id he
  clear h0
  have CS := Lib.hid (show ∀ W, Below w.heap.size w W → Calls Tryd.prog 16 #[outV (.slice A es.length c) used opn v rest] W fun e w' => e = .returned (.string (sumS used opn l rest)) ∧ Below W.heap.size W w' from fun W h => psum_any _ v used opn l rest W (hv.below h) hok hl hu ho (ht.below h))
  have HE := Lib.hid he
  have HEOK := Lib.hid heok
  have HT := Lib.hid ht
  have hsz := sumS_size (rest := rest) hu ho hl
  unfold textO
  obtain ⟨sm, hsm⟩ : ∃ sm : List UInt8, sumS used opn l rest = ⟨sm.toArray⟩ := ⟨_, bytes_list _⟩
  rw [hsm] at CS hsz
  have hsl : sm.length ≤ 9000 := by rw [bytes_size] at hsz; exact hsz
  have HSM := Lib.hid (show (sumS used opn l rest).data.toList = sm by rw [hsm])
  have HSL := Lib.hid hsl
  unfold outV at CS ⊢
  clear he heok ht hv hok hl hu ho hsz hsm hsl
  go_enter Tryd.func17, Tryd.ntmps17
  go_upto_region 2 with fail
  refine name_world ?_
  intro W hW
  have hb0 : Below w.heap.size w W := by rw [hW]; exact balloc (balloc (Below.refl _ _) _) _
  have hx0 : W.heap[w.heap.size]? = some (.cells #[.slice A es.length c, .int .i64 used, .int .i64 opn, v, .bool rest] 43 (0, 0)) := by rw [hW]; exact (Below.heap_alloc _ _ _ (by simp)).trans (heap_alloc_new _ _)
  have hB : BldIn (w.heap.size + 1) [] W := by
    rw [hW]
    have := Lib.fresh_isBuilder 96 5 (w.alloc (.cells #[.slice A es.length c, .int .i64 used, .int .i64 opn, v, .bool rest] 43))
    rw [World.size_alloc] at this
    exact this
  have hWs : w.heap.size + 1 < W.heap.size := by rw [hW]; simp
  obtain ⟨a0, a0f, a0l, a0h⟩ := box_at (Below.refl _ _) hx0
  have HB := Lib.hid hb0
  have HX := Lib.hid a0h
  have HBL := Lib.hid hB
  clear hW hb0 hx0 hB a0h
  go_wp2_with fail
  go_loopg [9] es.length (fun g s9 wr => ∃ k : Nat, k ≤ es.length ∧ es.length - k ≤ g ∧ s9 = .int .i64 k ∧ BldIn (w.heap.size + 1) (textL (es.take k)) wr ∧ Below (w.heap.size + 1) W wr)
  case atStart => exact ⟨0, Nat.zero_le _, Nat.le_refl _, rfl, HBL.out, Below.refl _ _⟩
  case round =>
    obtain ⟨k, hk, hg, rfl, hbl, hbw⟩ := hrel
    rename World => wr
    have HBr := Lib.hid (HB.out.trans (hbw.mono (Nat.le_succ _)))
    have HBr1 := Lib.hid hbw
    have hxr := (hbw.block w.heap.size (Nat.lt_succ_self _)).trans HX.out
    have hrs := Nat.lt_of_lt_of_le hWs hbw.size
    obtain ⟨a1, a1f, a1l, a1h⟩ := box_at (Below.refl _ _) hxr
    have HXr := Lib.hid hxr
    have HRS := Lib.hid hrs
    have HBLr := Lib.hid hbl
    clear hbl hbw a0 a0f a0l hWs hxr a1h hrs
    by_cases hlt : k < es.length
    · as_aux_lemma =>
        obtain ⟨b1, o1, rfl, hb1, hc⟩ := (HE.out.below HBr.out).at_ hlt
        have hek := HEOK.out _ (List.getElem_mem hlt)
        have HT2 := Lib.hid (textL_snoc es k hlt)
        have hz := evS_size hek
        have CE := Lib.hid (show ∀ W, Below w.heap.size w W → Calls Tryd.prog 36 #[evV es[k]] W fun x w' => x = .returned (.string (evS es[k])) ∧ Below W.heap.size W w' from fun W h => pevent_any es[k] W hek (HT.out.below h))
        have HTL := Lib.hid (textL_take es HEOK.out hel k)
        obtain ⟨m, hm⟩ : ∃ m : List UInt8, evS es[k] = ⟨m.toArray⟩ := ⟨_, bytes_list _⟩
        rw [hm, bytes_size] at hz
        have HM := Lib.hid (show textL (es.take (k + 1)) = textL (es.take k) ++ m ++ [10] by rw [HT2.out, hm])
        rw [hm] at CE
        change Hid (∀ W, Below w.heap.size w W → Calls Tryd.prog 36 #[.agg (evC es[k]).toArray] W fun x w' => x = .returned (.string ⟨m.toArray⟩) ∧ Below W.heap.size W w') at CE
        have HMZ := Lib.hid hz
        generalize textL (es.take k) = tl at HBLr HM HTL
        clear hek HT2 hm hz
        have hcl : (evC es[k]).length = 34 := rfl
        have hone : ∀ v ∈ evC es[k], v.oneCell' = true := evC_one _
        generalize evC es[k] = cs at CE hc hcl hone
        have HC := Lib.hid hc
        have HCL := Lib.hid hcl
        have hst := store_new (P := Tryd.prog) wr 86 cs 34 hcl (by kernel_rfl) hone
        clear hc hcl hone
        go_wp2_with (first
          | (refine wpList_load_list rfl 86 (.tmp 11) rfl b1 (o1 + k * 34) cs HC.out (by rfl) _ Tryd.underlying86 (by rfl) (by rw [HCL.out]; kernel_rfl) ?_)
          | (refine wpList_load_list rfl 86 (.tmp 5) rfl wr.heap.size 0 cs (new_cells _ _ _) (by rfl) _ Tryd.underlying86 (by rfl) (by rw [HCL.out]; kernel_rfl) ?_)
          | (go_at_call 36
             refine calls_named ?_
             intro W1 hW1
             have hb1 : Below wr.heap.size wr W1 := by rw [hW1]; exact balloc (Below.refl _ _) _
             clear hW1
             with_reducible refine (CE.out W1 (bthen HBr.out hb1)).mono ?_
             rintro e w1 ⟨rfl, hb2⟩
             have HW1 := Lib.hid (bthen hb1 hb2)
             have HBL1 := Lib.hid (builder_below HBLr.out (bthen hb1 hb2))
             clear hb1 hb2)
          | (go_at_call 44
             refine (ws_any _ tl m w1 HBL1.out (by have := HTL.out; omega) (by have := HMZ.out; omega)).mono ?_
             rintro e w2 ⟨rfl, h1, hb2⟩
             have HBL2 := Lib.hid h1
             have HW2 := Lib.hid ((HW1.out.mono (by have := HRS.out; omega)).trans hb2)
             clear h1 hb2)
          | (go_at_call 45
             refine (wb_any _ _ 10 w2 HBL2.out (by have := HTL.out; have := HMZ.out; simp; omega)).mono ?_
             rintro e w3 ⟨rfl, h1, hb2⟩
             have HBL3 := Lib.hid h1
             have HW3 := Lib.hid (HW2.out.trans hb2)
             clear h1 hb2))
        go_roundg (es.length - (k + 1))
        case measure => omega
        case rel => exact ⟨k + 1, hlt, Nat.le_refl _, by go_num, by rw [HM.out]; exact HBL3.out, HBr1.out.trans HW3.out⟩
    · as_aux_lemma =>
        obtain rfl : k = es.length := by omega
        have HTL := Lib.hid (textL_take es HEOK.out hel es.length)
        rw [List.take_length] at HBLr HTL
        generalize htl : textL es = tl at HBLr HTL
        have HTE := Lib.hid htl
        clear htl
        go_wp2_with (first
          | (go_at_call 16
             with_reducible refine (CS.out wr HBr.out).mono ?_
             rintro e w1 ⟨rfl, hb2⟩
             have HW1 := Lib.hid hb2
             have HBL1 := Lib.hid (builder_below HBLr.out hb2)
             clear hb2)
          | (go_at_call 44
             refine (ws_any _ tl sm w1 HBL1.out (by have := HTL.out; omega) (by have := HSL.out; omega)).mono ?_
             rintro e w2 ⟨rfl, h1, hb2⟩
             have HBL2 := Lib.hid h1
             have HW2 := Lib.hid ((HW1.out.mono (by have := HRS.out; omega)).trans hb2)
             clear h1 hb2)
          | (go_at_call 45
             refine (wb_any _ _ 10 w2 HBL2.out (by have := HTL.out; have := HSL.out; simp; omega)).mono ?_
             rintro e w3 ⟨rfl, h1, hb2⟩
             have HBL3 := Lib.hid h1
             have HW3 := Lib.hid (HW2.out.trans hb2)
             clear h1 hb2)
          | (go_at_call 46
             refine (wstr_any _ _ w3 HBL3.out (by simp)).mono ?_
             rintro e w4 ⟨rfl, hb2⟩
             have HW4 := Lib.hid (HW3.out.trans hb2)
             clear hb2))
        go_ret
        exact ⟨by rw [HTE.out, HSM.out, List.append_assoc]; rfl, HB.out.trans ((HBr1.out.trans HW4.out).mono (Nat.le_succ _))⟩
end Go.Proofs.YtfnabpmdjfejbaaDoor
