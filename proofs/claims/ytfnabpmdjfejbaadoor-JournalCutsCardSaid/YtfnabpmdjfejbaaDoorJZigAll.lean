/- zig.All. -/
import Derived.Test.YtfnabpmdjfejbaaDoorJZigGet
import Derived.ScopeJumps
import Derived.WalkMore
namespace Go.Proofs.YtfnabpmdjfejbaaDoor
set_option linter.unusedSimpArgs false
set_option linter.unusedVariables false
open Go.RowKit Go.Lib

theorem wp_scope_one {P : Program} {a : Act} {w : World} {Q : Exit → Act → World → Prop} {c rest : Code} (l : Nat) (J : Act → World → Prop) (μ : Act → World → Nat) (hf : findLabel c l = some (Code.skip.seq rest))
    (pass : ∀ a w, J a w → rest.wp P (Exit.jump l (fun a' w' => J a' w' ∧ μ a' w' < μ a w) Q) a w)
    (first : (∀ a w, J a w → rest.wp P (Exit.jump l J Q) a w) → c.wp P (Exit.jump l J Q) a w) : (Code.scope c).wp P Q a w :=
  wp_scope_jumps l J μ hf (first fun a w h => wp_mono (pass a w h) fun e a' w' h' => by
    cases e <;> first | exact h' | exact ⟨h'.1, h'.2.1⟩) (fun a w h => wp_seq (wp_skip (pass a w h)))

def intOf5 : Value → Int | .int _ q => q | _ => 0
theorem allB_from {l : List UInt8} {out : List Int} {at_ : Nat} (h : (allB (l.drop at_)).map (out ++ ·) = allB l) (hlt : at_ < l.length) :
    ((getZ (l.drop at_)).2.2 ≠ 0 ∧ allB l = none) ∨ ((getZ (l.drop at_)).2.2 = 0 ∧ at_ < at_ + (getZ (l.drop at_)).2.1 ∧ at_ + (getZ (l.drop at_)).2.1 ≤ l.length ∧ (allB (l.drop (at_ + (getZ (l.drop at_)).2.1))).map ((out ++ [(getZ (l.drop at_)).1]) ++ ·) = allB l) := by
  have hne : l.drop at_ ≠ [] := by simp; omega
  by_cases he : (getZ (l.drop at_)).2.2 = 0
  · right
    have hs := getZ_size he
    rw [List.length_drop] at hs
    refine ⟨he, by omega, by omega, ?_⟩
    rw [← h, allB_step hne he, List.drop_drop, Option.map_map]
    congr 1
    funext x
    simp
  · left
    refine ⟨he, ?_⟩
    rw [← h, allB_bad hne he]
    rfl

def AllSays (w : World) (l : List UInt8) (e : Ending) (w' : World) : Prop :=
  (match allB l with
    | some m => ∃ A c, e = .returned (.tuple #[.slice A m.length c, .int .i64 0]) ∧ OwnL numC 2 1 w.heap.size w' (.slice A m.length c) m
    | none => ∃ x : Int, x ≠ 0 ∧ e = .returned (.tuple #[.slice none 0 0, .int .i64 x])) ∧ Below w.heap.size w w'

set_option maxRecDepth 100000 in
set_option maxHeartbeats 4000000 in
theorem zigAll_any (v : Value) (l : List UInt8) (w : World) (hv : RowIn 1 byteC w v l) (hl : l.length ≤ 1000000) :
    Calls Tryd.prog 34 #[v] w (AllSays w l) := by
  obtain ⟨A0, c0, rfl⟩ := hv.form
  have hl' : l.length ≤ 9223372036854775807 := by omega
  have HV := Lib.hid hv
  have HL := Lib.hid hl
  clear hv hl
  go_enter Tryd.func34, Tryd.ntmps34
  go_wp2
  refine wp_scope_one 0 (fun a' w' => ∃ (at_ : Nat) (out : List Int) (s4 u6 u7 u8 u9 u10 u11 u12 u13 u14 u15 u16 u17 u18 u19 u20 u21 u22 u23 u24 u25 u26 u27 u28 u29 u30 u31 : Value),
    a' = { tmps := #[.slice A0 l.length c0, undef, .slice none 0 0, .int .i64 0, s4, .int .i64 at_, u6, u7, u8, u9, u10, u11, u12, u13, u14, u15, u16, u17, u18, u19, u20, u21, u22, u23, u24, u25, u26, u27, u28, u29, u30, u31], defers := [] } ∧
    at_ ≤ l.length ∧ out.length ≤ at_ ∧ OwnL numC 2 1 w.heap.size w' s4 out ∧ (allB (l.drop at_)).map (out ++ ·) = allB l ∧ Below w.heap.size w w') (fun a' _ => l.length - (intOf5 (a'.tmps.getD 5 undef)).toNat) rfl ?_ ?_
  · rintro a' wr ⟨at_, out, s4, u6, u7, u8, u9, u10, u11, u12, u13, u14, u15, u16, u17, u18, u19, u20, u21, u22, u23, u24, u25, u26, u27, u28, u29, u30, u31, rfl, hat, hol, hown, hall, hb⟩
    obtain ⟨A4, c4, rfl⟩ := hown.form
    have HO := Lib.hid hown
    have HB := Lib.hid hb
    have HA := Lib.hid hall
    have HOL := Lib.hid hol
    clear hown hall hol
    by_cases hlt : at_ < l.length
    · obtain ⟨m, A2, c2, hm, hrun, hrow⟩ := row_from eByte (HV.out.below hb) at_ hat
      have hcase := allB_from HA.out hlt
      have hlm : m.length ≤ 1000000 := by have := HL.out; rw [hm]; simp; omega
      rw [← hm] at hcase
      have HR := Lib.hid hrow
      have HM := Lib.hid hm
      have HLM := Lib.hid hlm
      have hne : ((at_ : Int) == (l.length : Int)) = false := by simp; omega
      clear hm hrow hlm hb
      have hzi := getZ_i64 m
      have hgc := fun W (hb : Below wr.heap.size wr W) => zigGet_any _ m W (HR.out.below hb) HLM.out
      have HGC := Lib.hid hgc
      have HZI := Lib.hid hzi
      clear hgc hzi
      rcases hcase with ⟨he, hn⟩ | ⟨he, h1, h2, h3⟩
      · have HN := Lib.hid hn
        generalize getZ m = r at *
        obtain ⟨x, k, er⟩ := r
        simp only at he
        have q1 : (er != 0) = true := by simpa using he
        have HE := Lib.hid he
        clear he hn
        go_wp2_with (go_at_call 60
                     refine (HGC.out wr (Below.refl _ _)).mono ?_
                     rintro e w1 ⟨rfl, hb1⟩
                     have HB1 := Lib.hid (bthen HB.out hb1)
                     clear hb1)
        simp only [Exit.jump]
        go_ret2
        refine ⟨?_, HB1.out⟩
        rw [HN.out]
        exact ⟨er, HE.out, rfl⟩
      · have H3 := Lib.hid h3
        generalize getZ m = r at *
        obtain ⟨x, k, er⟩ := r
        simp only at he h1 h2
        subst he
        have H1 := Lib.hid h1
        have H2 := Lib.hid h2
        have hkk : at_ + k ≤ 9223372036854775807 := by omega
        clear h1 h2 h3
        go_wp2_with (first
          | (go_at_call 60
             refine (HGC.out wr (Below.refl _ _)).mono ?_
             rintro e w1 ⟨rfl, hb1⟩
             have HW1 := Lib.hid hb1
             have HB1 := Lib.hid (bthen HB.out hb1)
             clear hb1)
          | (at_builtin
             refine wpList_appendL eNum (by rfl) (by rfl) w.heap.size out [x] (.slice A4 out.length c4) _ (by rfl) (by rfl) (HO.out.below (balloc HW1.out _)) (RowIn.lit w1 x _ _ w1.heap.size rfl rfl) (by have := HOL.out; have := HL.out; simp; omega) (by have := HB1.out.size; simp; omega) ?_
             intro out2 A5 c5 w2 hout2 hown2 hg2 _
             have hb2 : Below w.heap.size w w2 := (balloc HB1.out _).trans (grown_own hg2 HO.out (by have := HB1.out.size; simp; omega))
             have HW2 := Lib.hid hown2
             have HOUT2 := Lib.hid hout2
             have HBB := Lib.hid hb2
             clear hown2 hout2 hg2 hb2))
        go_step3
        refine ⟨rfl, ⟨at_ + k, out2, .slice A5 out2.length c5, _, _, _, _, _, _, _, _, _, _, _, _, _, _, _, _, _, _, _, _, _, _, _, _, _, _, by first | rfl | (simp only [Int.natCast_add]; done) | (simp; done), H2.out, ?_, HW2.out, ?_, HBB.out⟩, ?_⟩
        · rw [HOUT2.out]; have := HOL.out; have := H1.out; simp; omega
        · rw [HOUT2.out]; exact H3.out
        · have := H1.out; simp [intOf5]; omega
    · obtain rfl : at_ = l.length := by omega
      have HZ := Lib.hid (show allB l = some out by rw [← HA.out, List.drop_length, allB_nil]; simp)
      go_wp2
      simp only [Exit.jump]
      go_ret2
      refine ⟨?_, HB.out⟩
      rw [HZ.out]
      exact ⟨A4, c4, rfl, HO.out⟩
  · intro hfirst
    go_wp2
    go_step3
    rename_i K hK
    simp only [Exit.then]
    refine hK _ _ ?_
    refine hfirst _ _ ?_
    exact ⟨0, [], .slice none 0 0, _, _, _, _, _, _, _, _, _, _, _, _, _, _, _, _, _, _, _, _, _, _, _, _, _, _, rfl, Nat.zero_le _, Nat.le_refl _, OwnL.nil _ _, by simp, Below.refl _ _⟩
end Go.Proofs.YtfnabpmdjfejbaaDoor
