/- flywheellaw30.Events: the events as the program's. -/
import Derived.Test.YtfnabpmdjfejbaaDoorJPText
namespace Go.Proofs.YtfnabpmdjfejbaaDoor
set_option linter.unusedSimpArgs false
set_option linter.unusedVariables false
open Go.RowKit Go.Lib

theorem eEv : EltOf 40 86 34 280 (.agg #[.int .i64 0, .int .i64 0, .int .i64 0, .int .i64 0, .string ⟨#[]⟩, .int .i64 0, .int .i64 0, .int .i64 0, .int .i64 0, .int .i64 0, .int .i64 0, .int .i64 0, .int .i64 0, .int .i64 0, .int .i64 0, .int .i64 0, .int .i64 0, .int .i64 0, .int .i64 0, .int .i64 0, .int .i64 0, .int .i64 0, .int .i64 0, .int .i64 0, .int .i64 0, .int .i64 0, .int .i64 0, .int .u64 0, .int .u64 0, .int .i64 0, .int .i64 0, .int .i64 0, .int .i64 0, .int .i64 0]) evC :=
  ⟨by kernel_rfl, by kernel_rfl, rfl, by decide, by decide, fun _ => rfl, fun x u hu => evC_one x u hu⟩

set_option maxRecDepth 100000 in
set_option maxHeartbeats 8000000 in
theorem events_any (v : Value) (es : List EvtD) (w : World) (he : RowIn 34 evC w v es) (hel : es.length ≤ 100) :
    Calls Tryd.prog 13 #[v] w fun e w' => ∃ u, e = .returned u ∧ RowIn 34 evC w' u es ∧ Below w.heap.size w w' := by
  obtain ⟨A, c, rfl, hAc, h0⟩ := id he
  clear h0
  have HE := Lib.hid he
  have HAC := Lib.hid hAc
  clear he hAc
  go_enter Tryd.func13, Tryd.ntmps13
  go_wp2_with fail
  go_loopg [3, 8] es.length (fun g s3 s8 wr => ∃ k : Nat, k ≤ es.length ∧ es.length - k ≤ g ∧ s8 = .int .i64 k ∧ OwnL evC 86 34 w.heap.size wr s3 (es.take k) ∧ Below w.heap.size w wr)
  case atStart => exact ⟨0, Nat.zero_le _, Nat.le_refl _, rfl, OwnL.nil _ _, Below.refl _ _⟩
  case round =>
    obtain ⟨k, hk, hg, rfl, hown, hbw⟩ := hrel
    rename World => wr
    have HBr := Lib.hid hbw
    by_cases hlt : k < es.length
    · as_aux_lemma =>
        obtain ⟨b1, o1, rfl, hb1, hc⟩ := (HE.out.below HBr.out).at_ hlt
        obtain ⟨B1, e1, rfl⟩ := hown.form
        have hcl : (evC es[k]).length = 34 := rfl
        have hone : ∀ v ∈ evC es[k], v.oneCell' = true := evC_one _
        have HT2 := Lib.hid (show es.take (k + 1) = es.take k ++ [es[k]] from List.take_succ_eq_append_getElem hlt)
        have htl : (es.take k).length ≤ 100 := by rw [List.length_take]; omega
        generalize es.take k = ys at hown HT2 htl ⊢
        have HY := Lib.hid hown
        have HYL := Lib.hid htl
        obtain ⟨cs, hcs⟩ : ∃ cs, cs = evC es[k] := ⟨_, rfl⟩
        rw [← hcs] at hc hcl hone
        generalize es[k] = x at hcs HT2
        have HCS := Lib.hid hcs
        have hst := store_new (P := Tryd.prog) wr 54 cs 34 hcl (by kernel_rfl) hone
        have HC := Lib.hid hc
        have HCL := Lib.hid hcl
        clear hc hcl hone hown htl hcs hbw
        go_wp2_with (first
          | (refine wpList_load_list rfl 54 (.tmp 10) rfl b1 (o1 + k * 34) cs HC.out (by rfl) _ Tryd.underlying54 (by rfl) (by rw [HCL.out]; kernel_rfl) ?_)
          | (refine wpList_load_list rfl 54 (.tmp 5) rfl wr.heap.size 0 cs (new_cells _ _ _) (by rfl) _ Tryd.underlying54 (by rfl) (by rw [HCL.out]; kernel_rfl) ?_)
          | (refine wpList_build_one eEv (by decide) rfl (.tmp 13) rfl cs HCL.out (by rfl) ?_)
          | (at_builtin
             refine wpList_appendL eEv (by rfl) (by rfl) w.heap.size ys [x] (.slice B1 ys.length e1) _ (by rfl) (by rfl) ((HY.out.below (balloc (Below.refl _ _) _)).below (balloc (Below.refl _ _) _)) (RowIn.lit (n := 34) (f := evC) (wr.alloc _) x cs.toArray _ _ rfl (by simp [HCS.out])) (by have := HYL.out; simp; omega) (by have := HBr.out.size; simp; omega) ?_
             intro out A2 c2 w2 hout hown hg hor
             have HOU := Lib.hid (show out = ys ++ [x] from hout)
             have hb7 : Below w.heap.size wr w2 := (((Below.refl _ _).alloc HBr.out.size _).alloc (by have := HBr.out.size; simp; omega) _).trans (grown_own hg HY.out (by have := HBr.out.size; simp; omega))
             have HO := Lib.hid hown
             have HB7 := Lib.hid hb7
             clear hown hout hg hor hb7))
        go_roundg (es.length - (k + 1))
        case measure => omega
        case rel => exact ⟨k + 1, hlt, Nat.le_refl _, by go_num, by rw [HT2.out, ← HOU.out]; exact HO.out, HBr.out.trans HB7.out⟩
    · obtain rfl : k = es.length := by omega
      rw [List.take_length] at hown
      have HO := Lib.hid (hown.row eEv)
      clear hown hbw
      go_wp2_with fail
      go_ret
      exact ⟨_, rfl, HO.out, HBr.out⟩
end Go.Proofs.YtfnabpmdjfejbaaDoor
