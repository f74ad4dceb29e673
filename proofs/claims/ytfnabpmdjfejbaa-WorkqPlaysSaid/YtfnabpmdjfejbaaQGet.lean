/- workq's Get, walked. -/
import Derived.Test.YtfnabpmdjfejbaaQDone
namespace Go.Proofs.Ytfnabpmdjfejbaa
set_option linter.unusedSimpArgs false
set_option linter.unusedVariables false
open Go.RowKit Go.Lib
open Go.ChangeMaps (setBlock)

def turnK (f b : List KO) : List KO × List KO := if f = [] then (b.reverse, []) else (f, b)
theorem turnK_kys (f b : List KO) : turnL (kys f) (kys b) = (kys (turnK f b).1, kys (turnK f b).2) := by
  unfold turnL turnK
  by_cases h : f = []
  · subst h; simp [kys]
  · have : kys f ≠ [] := by simpa [kys] using h
    rw [if_neg this, if_neg h]
theorem kys_split {l : List KO} {f : List Ky} {x : Ky} (h : kys l = f ++ [x]) : ∃ f' x', l = f' ++ [x'] ∧ kys f' = f ∧ x'.1 = x := by
  have hn : l ≠ [] := by rintro rfl; simp [kys] at h
  obtain ⟨f', x', rfl⟩ : ∃ f' x', l = f' ++ [x'] := ⟨_, _, (List.dropLast_concat_getLast hn).symm⟩
  rw [kys_snoc] at h
  obtain ⟨h1, h2⟩ := List.append_inj' h rfl
  exact ⟨f', x', rfl, h1, by simpa using h2⟩

/-- What Get takes: the first one of the line. -/
def gotQ (st : QSt) (f : List KO) (x : KO) : QSt := { st with front := f, back := (turnK st.front st.back).2, dirty := strikeL st.dirty x, busy := insL st.busy x }

def QGotSays (w : World) (g o : Nat) (B : Nat → Prop) (st : QSt) (e : Ending) (w' : World) : Prop :=
  ∃ f x B', (turnK st.front st.back).1 = f ++ [x] ∧ e = .returned (.tuple #[.agg #[.int .u64 x.1.1, .int .u64 x.1.2], .bool true]) ∧ QIn w' g o (gotQ st f x) B' ∧ Moves w w' g o 5 B ∧ (∀ k, B' k → B k ∨ w.heap.size ≤ k)

set_option maxRecDepth 100000 in
set_option maxHeartbeats 2000000 in
theorem qget_none (g o : Nat) (B : Nat → Prop) (st : QSt) (w : World) (h : QIn w g o st B) (hz : st.front = [] ∧ st.back = []) :
    Calls Try.prog 10 #[.pointer (some ⟨g, o, none⟩)] w (QSays w g o B st (.tuple #[.agg #[.int .u64 0, .int .u64 0], .bool false])) := by
  obtain ⟨vf, vb, md, mb, h⟩ := h
  have HE := Lib.hid fun w' => says_below (w' := w') (v := .tuple #[.agg #[.int .u64 0, .int .u64 0], .bool false]) h
  have hl : FIn w g o vf vb [] [] := by have := h.line; rw [hz.1, hz.2] at this; exact this
  have HL := Lib.hid hl
  clear h hz hl
  go_enter Try.func10, Try.ntmps10
  go_wp2_with (go_at_call 46; refine (fget_none g o vf vb _ (HL.out.below (balloc (Below.refl _ _) _))).mono ?_; rintro e w1 ⟨rfl, hb1⟩; obtain ⟨k1, k2, k3⟩ := box_cells hb1 (heap_alloc_new _ _); have hb1' : Below w.heap.size w w1 := bthen (balloc (Below.refl _ _) _) hb1)
  refine bodyPost_ret (v := .tuple #[.agg #[.int .u64 0, .int .u64 0], .bool false]) (by simp [results, Try.results10, go_sem, *]) rfl (HE.out _ ?_)
  repeat (first | assumption | exact Below.refl _ _ | refine Below.drew ?_ | refine balloc ?_ _ | refine Below.setCell ?_ (by simp) _)

set_option maxRecDepth 100000 in
set_option maxHeartbeats 4000000 in
theorem qget_some (g o : Nat) (B : Nat → Prop) (st : QSt) (w : World) (h : QIn w g o st B) (hz : 0 < st.front.length + st.back.length) (hl : st.front.length + st.back.length < 1000000) :
    Calls Try.prog 10 #[.pointer (some ⟨g, o, none⟩)] w (QGotSays w g o B st) := by
  obtain ⟨vf, vb, md, mb, h⟩ := h
  obtain ⟨d, rfl⟩ : ∃ d, md = some d := by
    cases md with
    | none => obtain ⟨h1, h2⟩ := h.mt rfl; rw [h1, h2] at hz; simp at hz
    | some d => exact ⟨d, rfl⟩
  obtain ⟨e, rfl⟩ : ∃ e, mb = some e := by
    cases mb with
    | none => have := h.both.2 rfl; cases this
    | some e => exact ⟨e, rfl⟩
  have H := Lib.hid h
  have hglt := h.lt
  clear h
  go_enter Try.func10, Try.ntmps10
  go_wp2_with (go_at_call 46; refine (fget_some g o vf vb (kys st.front) (kys st.back) _ (H.out.line.below (balloc (Below.refl _ _) _)) (by rw [kys_len, kys_len]; exact hz) (by rw [kys_len, kys_len]; exact hl)).mono ?_; rintro e9 w1 ⟨vf1, vb1, x0, f0, hf0, rfl, hfin, hbl, hmv⟩; rw [turnK_kys] at hf0 hfin; obtain ⟨f, x, hf, rfl, rfl⟩ := kys_split hf0; have HF := Lib.hid hf; have HFin := Lib.hid hfin; have HB := Lib.hid hbl; have HM := Lib.hid hmv; clear hf hfin hbl hmv hf0)
  refine name_world ?_
  intro W hW
  obtain ⟨r, hr⟩ : ∃ r, r = w1.heap.size := ⟨_, rfl⟩
  rw [← hr]
  have hz1 : w.heap.size < w1.heap.size := by have := HM.out.size; simp at this; omega
  have HW : Hid (QAt W g o { st with front := f, back := (turnK st.front st.back).2 } vf1 vb1 (some d) (some e) B ∧ W.heap[r]? = some (.cells #[.int .u64 x.1.1, .int .u64 x.1.2] 32 (0, 0)) ∧
      W.heap[w.heap.size]? = some (.cells #[.int .u64 0, .int .u64 0] 32 (0, 0)) ∧ Moves w W g o 5 B ∧ w.heap.size < r ∧ W.heap.size = r + 1) := by
    have hb0 : Below w.heap.size w (w.alloc (.cells #[.int .u64 0, .int .u64 0] 32)) := balloc (Below.refl _ _) _
    have q := (H.out.below hb0).moved HFin.out HM.out (fun r hr => .inl ((HB.out r hr).elim (H.out.inf r) (H.out.inb r))) (fun e => by cases e)
    have q2 : QAt w1 g o { st with front := f, back := (turnK st.front st.back).2 } vf1 vb1 (some d) (some e) B :=
      ⟨q.line, q.cd, q.cb, q.co, q.fd, q.fb, q.fo, q.dn, q.bn, q.both, q.apart, fun r hr => (HB.out r (.inl hr)).elim (H.out.inf r) (H.out.inb r), fun r hr => (HB.out r (.inr hr)).elim (H.out.inf r) (H.out.inb r), H.out.ind, H.out.inz, fun k hk => by have := H.out.low k hk; omega, H.out.notg, fun e => by cases e⟩
    have hbox : w1.heap[w.heap.size]? = some (.cells #[.int .u64 0, .int .u64 0] 32 (0, 0)) :=
      (HM.out.block w.heap.size (by simp) (by omega) (fun hr => by have := H.out.low _ (H.out.inb _ hr); omega)).trans (heap_alloc_new _ _)
    subst hW hr
    exact ⟨q2.below (balloc (Below.refl _ _) _), heap_alloc_new _ _, (Below.heap_alloc _ _ _ hz1).trans hbox,
      (((Moves.of_below hb0 hglt).trans (HM.out.wide (by omega)) (fun r hr => .inl (H.out.inb r hr))).allocE _ hglt), hz1, by simp⟩
  clear hW hr hz1 HFin HB HM
  obtain ⟨hQ, hb4, hb2, hM, hwr, hWs⟩ := HW.out
  have hdr : d ≠ r ∧ d ≠ w.heap.size ∧ d ≠ g ∧ e ≠ r ∧ e ≠ w.heap.size ∧ e ≠ g := by
    have h1 := H.out.low d (H.out.ind d rfl)
    have h2 := H.out.low e (H.out.inz e rfl)
    exact ⟨by omega, by omega, fun h => H.out.notg (h ▸ H.out.ind d rfl), by omega, by omega, fun h => H.out.notg (h ▸ H.out.inz e rfl)⟩
  have HD := Lib.hid hdr
  have hcd := hQ.cd
  have hk1 : W.cell? ⟨r, 0, none⟩ = some (.int .u64 x.1.1) := by simp [World.cell?, hb4]
  have hk2 : W.cell? ⟨r, 1, none⟩ = some (.int .u64 x.1.2) := by simp [World.cell?, hb4]
  obtain ⟨o5, hs5, hset5⟩ := drop_set' (w := W.drew) (l := st.dirty) (d := d) hQ.dn x
  have HS5 := Lib.hid hset5
  have HR5 := Lib.hid hs5
  clear hset5 hs5 hQ hb4 hb2 hM hdr hwr hWs
  go_region_law (refine step_delete (by rfl) (.tmp 20) (.tmp 21) _ _ (by rfl) _ _ (by rfl) (by rfl) HR5.out ?_)
  all_goals
    obtain ⟨W2, hW2⟩ : ∃ W2 : World, W2 = setBlock W.drew d o5 := ⟨_, rfl⟩
    rw [← hW2]
    have HW2 : Hid (QAt W2 g o { st with front := f, back := (turnK st.front st.back).2, dirty := strikeL st.dirty x } vf1 vb1 (some d) (some e) B ∧ W2.heap[r]? = some (.cells #[.int .u64 x.1.1, .int .u64 x.1.2] 32 (0, 0)) ∧
        W2.heap[w.heap.size]? = some (.cells #[.int .u64 0, .int .u64 0] 32 (0, 0)) ∧ Moves w W2 g o 5 B) := by
      obtain ⟨hQ, hb4, hb2, hM, hwr, hWs⟩ := HW.out
      obtain ⟨h1, h2, h3, h4, h5, h6⟩ := HD.out
      have q := (hQ.below ((Below.refl _ W).drew)).setDirty (x := o5) HS5.out
      subst hW2
      exact ⟨q, (setBlock_other (Ne.symm h1)).trans hb4, (setBlock_other (Ne.symm h2)).trans hb2, hM.drewE.block_ _ h3 (.inl (H.out.ind d rfl))⟩
    clear hW2 hcd hk1 hk2 HR5 HS5
    obtain ⟨hQ, hb4, hb2, hM⟩ := HW2.out
    have hcb := hQ.cb
    have hk1 : W2.cell? ⟨r, 0, none⟩ = some (.int .u64 x.1.1) := by simp [World.cell?, hb4]
    have hk2 : W2.cell? ⟨r, 1, none⟩ = some (.int .u64 x.1.2) := by simp [World.cell?, hb4]
    obtain ⟨o6, hs6, hset6⟩ := store_set (w := W2.drew) (l := st.busy) (d := e) hQ.bn x
    have HS6 := Lib.hid hset6
    clear hset6 hQ hb4 hb2 hM
    go_wp2_with fail
    go_region
    obtain ⟨W3, hW3⟩ : ∃ W3 : World, W3 = setBlock W2.drew e o6 := ⟨_, rfl⟩
    rw [← hW3]
    have HW3 : Hid (QAt W3 g o (gotQ st f x) vf1 vb1 (some d) (some e) B ∧ W3.heap[r]? = some (.cells #[.int .u64 x.1.1, .int .u64 x.1.2] 32 (0, 0)) ∧
        W3.heap[w.heap.size]? = some (.cells #[.int .u64 0, .int .u64 0] 32 (0, 0)) ∧ Moves w W3 g o 5 B) := by
      obtain ⟨hQ, hb4, hb2, hM⟩ := HW2.out
      obtain ⟨h1, h2, h3, h4, h5, h6⟩ := HD.out
      have q := (hQ.below ((Below.refl _ W2).drew)).setBusy (x := o6) HS6.out
      subst hW3
      exact ⟨q, (setBlock_other (Ne.symm h4)).trans hb4, (setBlock_other (Ne.symm h5)).trans hb2, hM.drewE.block_ _ h6 (.inl (H.out.inz e rfl))⟩
    clear hW3 hcb hk1 hk2 hs6 HS6
    obtain ⟨hQ, hb4, hb2, hM⟩ := HW3.out
    have hk1 : W3.cell? ⟨r, 0, none⟩ = some (.int .u64 x.1.1) := by simp [World.cell?, hb4]
    have hk2 : W3.cell? ⟨r, 1, none⟩ = some (.int .u64 x.1.2) := by simp [World.cell?, hb4]
    have hk3 : W3.cell? ⟨w.heap.size, 0, none⟩ = some (.int .u64 0) := by simp [World.cell?, hb2]
    have hk4 : W3.cell? ⟨w.heap.size, 1, none⟩ = some (.int .u64 0) := by simp [World.cell?, hb2]
    have hk5 : W3.frozen? ⟨w.heap.size, 0, none⟩ = false := by simp [World.frozen?, hb2]
    have hk6 : W3.frozen? ⟨w.heap.size, 1, none⟩ = false := by simp [World.frozen?, hb2]
    clear hQ hb4 hb2 hM
    go_wp2
    refine bodyPost_ret (v := .tuple #[.agg #[.int .u64 x.1.1, .int .u64 x.1.2], .bool true]) (by simp [results, Try.results10, go_sem, hk1, hk2, hk3, hk4, hk5, hk6]) rfl ?_
    obtain ⟨hQ, hb4, hb2, hM⟩ := HW3.out
    refine ⟨f, x, B, HF.out, rfl, ⟨vf1, vb1, some d, some e, ?_⟩, ?_, fun k hk => .inl hk⟩
    · exact hQ.keep (fun j => by rw [World.cell?_setCell_far _ _ _ _ (by simp; omega), World.cell?_setCell_far _ _ _ _ (by simp; omega)]) (fun j => by rw [World.frozen?_setCell, World.frozen?_setCell])
        (fun k hk => by
          have := H.out.low k hk
          rw [Below.heap_setCell _ _ _ _ (by simp; omega), Below.heap_setCell _ _ _ _ (by simp; omega)]) (by simp [World.setCell])
    · exact (hM.other _ (by omega) (.inr (Nat.le_refl _))).other _ (by omega) (.inr (Nat.le_refl _))
end Go.Proofs.Ytfnabpmdjfejbaa
