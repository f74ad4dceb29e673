/- workq's Waiting, Busy, Dirty. -/
import Derived.Test.YtfnabpmdjfejbaaIKeys
import Derived.Test.YtfnabpmdjfejbaaQAdd
namespace Go.Proofs.Ytfnabpmdjfejbaa
set_option linter.unusedSimpArgs false
set_option linter.unusedVariables false
open Go.RowKit Go.Lib

theorem Lists.of_eq {w : World} {l m : List Ky} {e : Ending} {w' : World} (h : Lists w l e w') (hl : l = m) : Lists w m e w' := hl ▸ h

set_option maxRecDepth 100000 in
set_option maxHeartbeats 2000000 in
theorem waiting_any (g o : Nat) (B : Nat → Prop) (st : QSt) (w : World) (h : QIn w g o st B) (hl : st.front.length + st.back.length < 400000) :
    Calls Try.prog 15 #[.pointer (some ⟨g, o, none⟩)] w (Lists w (kys (st.front.reverse ++ st.back))) := by
  obtain ⟨vf, vb, md, mb, h⟩ := h
  have hF : FR w g o vf vb (kys st.front) (kys st.back) := ⟨h.line.1, h.line.2.1, h.line.2.2.2.2.1.row, h.line.2.2.2.2.2.1.row⟩
  have HL := Lib.hid (list_any g o vf vb (kys st.front) (kys st.back) w hF (by simp [kys]; omega) (by simp [kys]; omega))
  have hc := h.line.1
  clear h hF
  go_enter Try.func15, Try.ntmps15
  go_wp2_with (go_at_call 50; refine HL.out.mono ?_; rintro e w1 ⟨v, rfl, hr, hb⟩)
  go_ret
  have e1 : (kys st.front).reverse ++ kys st.back = kys (st.front.reverse ++ st.back) := by simp [kys]
  rw [e1] at hr
  exact ⟨v, rfl, hr, hb⟩

set_option maxRecDepth 100000 in
set_option maxHeartbeats 2000000 in
theorem busy_any (g o : Nat) (B : Nat → Prop) (st : QSt) (w : World) (h : QIn w g o st B) (hl : st.busy.length < 1000000) :
    Calls Try.prog 16 #[.pointer (some ⟨g, o, none⟩)] w (Lists w (risL (kys st.busy))) := by
  obtain ⟨vf, vb, md, mb, h⟩ := h
  have HL := Lib.hid (rising_any mb st.busy w h.bn hl)
  have hc := h.cb
  have hc0 := h.line.1
  clear h
  go_enter Try.func16, Try.ntmps16
  go_wp2_with (go_at_call 51; refine HL.out.mono ?_; rintro e w1 ⟨v, rfl, hr, hb⟩)
  go_ret
  exact ⟨v, rfl, hr, hb⟩

set_option maxRecDepth 100000 in
set_option maxHeartbeats 2000000 in
theorem dirty_any (g o : Nat) (B : Nat → Prop) (st : QSt) (w : World) (h : QIn w g o st B) (hl : st.dirty.length < 1000000) :
    Calls Try.prog 17 #[.pointer (some ⟨g, o, none⟩)] w (Lists w (risL (kys st.dirty))) := by
  obtain ⟨vf, vb, md, mb, h⟩ := h
  have HL := Lib.hid (rising_any md st.dirty w h.dn hl)
  have hc := h.cd
  have hc0 := h.line.1
  clear h
  go_enter Try.func17, Try.ntmps17
  go_wp2_with (go_at_call 51; refine HL.out.mono ?_; rintro e w1 ⟨v, rfl, hr, hb⟩)
  go_ret
  exact ⟨v, rfl, hr, hb⟩
end Go.Proofs.Ytfnabpmdjfejbaa
