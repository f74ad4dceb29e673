/- workq's Add, walked. -/
import Derived.Test.YtfnabpmdjfejbaaQState
namespace Go.Proofs.Ytfnabpmdjfejbaa
set_option linter.unusedSimpArgs false
set_option linter.unusedVariables false
open Go.RowKit Go.Lib
open Go.ChangeMaps (setBlock)

def addQ (st : QSt) (x : KO) : QSt × Bool :=
  if st.over = true ∨ x ∈ st.dirty then (st, false) else
  if x ∈ st.busy then ({ st with dirty := st.dirty ++ [x] }, false) else ({ st with dirty := st.dirty ++ [x], back := st.back ++ [x] }, true)

def QSays (w : World) (g o : Nat) (B : Nat → Prop) (st' : QSt) (v : Value) (e : Ending) (w' : World) : Prop :=
  ∃ B', e = .returned v ∧ QIn w' g o st' B' ∧ Moves w w' g o 5 B ∧ (∀ k, B' k → B k ∨ w.heap.size ≤ k)

theorem says_below {w w' : World} {g o : Nat} {B : Nat → Prop} {st : QSt} {v : Value} {vf vb : Value} {md mb : Option Nat} (h : QAt w g o st vf vb md mb B) (hb : Below w.heap.size w w') : QSays w g o B st v (.returned v) w' :=
  ⟨B, rfl, ⟨_, _, _, _, h.below hb⟩, Moves.of_below hb h.lt, fun k hk => .inl hk⟩

set_option maxRecDepth 100000 in
set_option maxHeartbeats 2000000 in
theorem add_no (g o : Nat) (B : Nat → Prop) (st : QSt) (x : KO) (w : World) (vf vb : Value) (md mb : Option Nat) (h : QAt w g o st vf vb md mb B) (hno : st.over = true ∨ x ∈ st.dirty) :
    Calls Try.prog 13 #[.pointer (some ⟨g, o, none⟩), .agg #[.int .u64 x.1.1, .int .u64 x.1.2]] w (QSays w g o B st (.bool false)) := by
  have HE := Lib.hid fun w' => says_below (w' := w') (v := .bool false) h
  have r1 : ∀ W, Below w.heap.size w W → W.cell? ⟨g, o + 4, none⟩ = some (.bool st.over) := fun W hW => (hW.cell (p := ⟨g, _, none⟩) h.lt).trans h.co
  cases hov : st.over with
  | true =>
    rw [hov] at r1
    clear h hno
    go_enter Try.func13, Try.ntmps13
    go_wp2_with fail
    go_quiet (fail)
    go_wp2
    go_ret
    exact HE.out _ (below_drewN (balloc (Below.refl _ _) _) _)
  | false =>
    have hx : x ∈ st.dirty := hno.resolve_left (by rw [hov]; simp)
    rw [hov] at r1
    have r2 : ∀ W, Below w.heap.size w W → W.cell? ⟨g, o + 2, none⟩ = some (.map md) := fun W hW => (hW.cell (p := ⟨g, _, none⟩) h.lt).trans h.cd
    have r3 : ∀ W, Below w.heap.size w W → (Instr.lookup 27 (.map md) (.agg #[.int .u64 x.1.1, .int .u64 x.1.2]) false).run Try.prog W = .ok (.int .i64 1) W := fun W hW => by
      have := look_set ((h.below hW).dn) x
      simpa [hx, bit] using this
    have r4 : ∀ n, (Instr.lookup 27 (.map md) (.agg #[.int .u64 x.1.1, .int .u64 x.1.2]) false).run Try.prog ((w.alloc (.cells #[.int .u64 x.1.1, .int .u64 x.1.2] 32)).drewN n) = .ok (.int .i64 1) ((w.alloc (.cells #[.int .u64 x.1.1, .int .u64 x.1.2] 32)).drewN n) := fun n => r3 _ (below_drewN (balloc (Below.refl _ _) _) n)
    clear h hno hx r3
    go_enter Try.func13, Try.ntmps13
    go_wp2_with fail
    go_quiet (fail)
    go_wp2
    go_ret
    exact HE.out _ (below_drewN (balloc (Below.refl _ _) _) _)

theorem name_world {P : Program} {c : Code} {Q : Exit → Act → World → Prop} {a : Act} {w : World} (h : ∀ W, W = w → c.wp P Q a W) : c.wp P Q a w := h w rfl
theorem alloc_cells (w : World) (cs : Array Value) (T : TypeId) : ∀ W, W = w.alloc (.cells cs T) → W.heap[w.heap.size]? = some (.cells cs T (0, 0)) := fun W h => by rw [h]; exact heap_alloc_new _ _

set_option maxRecDepth 100000 in
set_option maxHeartbeats 4000000 in
theorem add_yes (g o : Nat) (B : Nat → Prop) (st : QSt) (x : KO) (w : World) (vf vb : Value) (md mb : Option Nat) (h : QAt w g o st vf vb md mb B) (hov : st.over = false) (hx : x ∉ st.dirty) (hl : st.back.length < 1000000) :
    Calls Try.prog 13 #[.pointer (some ⟨g, o, none⟩), .agg #[.int .u64 x.1.1, .int .u64 x.1.2]] w (QSays w g o B (addQ st x).1 (.bool (addQ st x).2)) := by
  have H := Lib.hid h
  have r1 : ∀ W, Below w.heap.size w W → W.cell? ⟨g, o + 4, none⟩ = some (.bool false) := fun W hW => (hW.cell (p := ⟨g, _, none⟩) h.lt).trans (by rw [h.co, hov])
  have r2 : ∀ W, Below w.heap.size w W → W.cell? ⟨g, o + 2, none⟩ = some (.map md) := fun W hW => (hW.cell (p := ⟨g, _, none⟩) h.lt).trans h.cd
  have r4 : ∀ n, (Instr.lookup 27 (.map md) (.agg #[.int .u64 x.1.1, .int .u64 x.1.2]) false).run Try.prog ((w.alloc (.cells #[.int .u64 x.1.1, .int .u64 x.1.2] 32)).drewN n) = .ok (.int .i64 0) ((w.alloc (.cells #[.int .u64 x.1.1, .int .u64 x.1.2] 32)).drewN n) := fun n => by
    have := look_set ((h.below (below_drewN (balloc (Below.refl _ _) (.cells #[.int .u64 x.1.1, .int .u64 x.1.2] 32)) n)).dn) x
    simpa [hx, bit] using this
  have HX := Lib.hid hx
  have HV := Lib.hid hov
  have qn : ∀ (w : World) (r : Option Nat), (binOp .eql 27 (.map r) (.map none)).run Try.prog w = .ok (.bool r.isNone) w := fun w r => run_eql_map_nil w _ _ _ r Try.underlying27
  have hmm := @run_makeMap Try.prog
  have hglt := h.lt
  clear h hx hov
  go_enter Try.func13, Try.ntmps13
  go_wp2_with fail
  go_quiet (fail)
  obtain ⟨W0, hW0⟩ : ∃ W0 : World, W0 = (w.alloc (.cells #[.int .u64 x.1.1, .int .u64 x.1.2] 32)).drewN nq := ⟨_, rfl⟩
  rw [← hW0]
  have hb0 : Below w.heap.size w W0 := by rw [hW0]; exact below_drewN (balloc (Below.refl _ _) _) _
  have HB0 : Hid (W0.heap[w.heap.size]? = some (.cells #[.int .u64 x.1.1, .int .u64 x.1.2] 32 (0, 0))) := by rw [hW0]; exact heap_alloc_new _ _
  have H0 := Lib.hid (H.out.below hb0)
  have hlt0 := H0.out.lt
  have Hb0 := Lib.hid hb0
  have r5 : ∀ W, Below W0.heap.size W0 W → W.cell? ⟨g, o + 2, none⟩ = some (.map md) := fun W hW => (hW.cell (p := ⟨g, _, none⟩) hlt0).trans H0.out.cd
  have r6 : ∀ W, Below W0.heap.size W0 W → W.cell? ⟨g, o + 3, none⟩ = some (.map mb) := fun W hW => (hW.cell (p := ⟨g, _, none⟩) hlt0).trans H0.out.cb
  have r7 : ∀ W, Below W0.heap.size W0 W → W.frozen? ⟨g, o + 2, none⟩ = false := fun W hW => (hW.frozen (p := ⟨g, _, none⟩) hlt0).trans H0.out.fd
  have r8 : ∀ W, Below W0.heap.size W0 W → W.frozen? ⟨g, o + 3, none⟩ = false := fun W hW => (hW.frozen (p := ⟨g, _, none⟩) hlt0).trans H0.out.fb
  clear hW0 r1 r2 r4 hb0
  have hcases : (∃ d e, md = some d ∧ mb = some e) ∨ (md = none ∧ mb = none) := by
    have := H.out.both
    cases md <;> cases mb <;> simp_all
  rcases hcases with ⟨d, e, rfl, rfl⟩ | ⟨rfl, rfl⟩
  case' inl =>
    go_wp2_with fail
    refine name_world ?_
    intro W hW
    have HW : Hid (∃ B', QAt W g o st vf vb (some d) (some e) B' ∧ W.heap[w.heap.size]? = some (.cells #[.int .u64 x.1.1, .int .u64 x.1.2] 32 (0, 0)) ∧ Moves w W g o 5 B ∧ (∀ k, B' k → B k ∨ w.heap.size < k)) := by
      subst hW
      exact ⟨B, H0.out, HB0.out, Moves.of_below Hb0.out H.out.lt, fun k hk => .inl hk⟩
  case' inr =>
    go_wp2_with fail
    refine name_world ?_
    intro W hW
    obtain ⟨d, hd⟩ : ∃ d, d = W0.heap.size := ⟨_, rfl⟩
    obtain ⟨e, he⟩ : ∃ e, e = W0.heap.size + 1 := ⟨_, rfl⟩
    have HW : Hid (∃ B', QAt W g o st vf vb (some d) (some e) B' ∧ W.heap[w.heap.size]? = some (.cells #[.int .u64 x.1.1, .int .u64 x.1.2] 32 (0, 0)) ∧ Moves w W g o 5 B ∧ (∀ k, B' k → B k ∨ w.heap.size < k)) := by
      have hz0 : w.heap.size < W0.heap.size := (Array.getElem?_eq_some_iff.1 HB0.out).1
      obtain ⟨m1, m2⟩ := H0.out.made hd he
      have hW' : W = ((((W0.alloc (.map #[] 0)).alloc (.map #[] 0)).setCell ⟨g, o + 2, none⟩ (.map (some d))).setCell ⟨g, o + 3, none⟩ (.map (some e))) := by
        have e1 : g < W0.heap.size + 1 := by omega
        rw [hW, hd, he]
        simp [World.setCell_alloc_past, hlt0, e1, World.size_alloc]
      rw [← hW'] at m1 m2
      refine ⟨_, m1, (m2.block w.heap.size hz0 (by omega) (fun hB => by have := H.out.low _ hB; omega)).trans HB0.out, (Moves.of_below Hb0.out H.out.lt).trans m2 (fun r hr => .inl hr), fun k hk => ?_⟩
      rcases hk with hk | hk | hk
      · exact .inl hk
      · omega
      · omega
    clear hd he
  all_goals
    clear hW r5 r6 r7 r8 H0 HB0 Hb0 hlt0
    obtain ⟨B', hQ, hbox, hM, hB⟩ := HW.out
    have hcd := hQ.cd
    have hb1 : W.cell? ⟨w.heap.size, 0, none⟩ = some (.int .u64 x.1.1) := by simp [World.cell?, hbox]
    have hb2 : W.cell? ⟨w.heap.size, 1, none⟩ = some (.int .u64 x.1.2) := by simp [World.cell?, hbox]
    obtain ⟨o5, hs5, hset5⟩ := store_set (w := W.drew) (l := st.dirty) (d := d) hQ.dn x
    have HQ := Lib.hid hQ
    have HM := Lib.hid hM
    have HBx := Lib.hid hbox
    have HB := Lib.hid hB
    have HS5 := Lib.hid hset5
    clear hQ hM hbox hB hset5 HW
    go_region
    obtain ⟨W2, hW2⟩ : ∃ W2 : World, W2 = setBlock W.drew d o5 := ⟨_, rfl⟩
    rw [← hW2]
    have hdn : d ≠ w.heap.size := by
      rcases HB.out d (HQ.out.ind d rfl) with h | h
      · have := H.out.low d h; omega
      · omega
    have hdg : d ≠ g := fun e => HQ.out.notg (e ▸ HQ.out.ind d rfl)
    have HW2 : Hid (QAt W2 g o { st with dirty := st.dirty ++ [x] } vf vb (some d) (some e) B' ∧ W2.heap[w.heap.size]? = some (.cells #[.int .u64 x.1.1, .int .u64 x.1.2] 32 (0, 0)) ∧ Moves w W2 g o 5 B) := by
      have q := (HQ.out.below ((Below.refl _ W).drew)).setDirty (x := o5) HS5.out
      rw [insL, if_neg HX.out] at q
      subst hW2
      exact ⟨q, (setBlock_other (Ne.symm hdn)).trans HBx.out, HM.out.drewE.block_ _ hdg ((HB.out d (HQ.out.ind d rfl)).imp id (fun h => Nat.le_of_lt h))⟩
    clear hW2 hs5 HS5 HQ HM HBx hcd hb1 hb2 hdn hdg
    obtain ⟨hQ, hbox, hM⟩ := HW2.out
    have hcb := hQ.cb
    have hb1 : W2.cell? ⟨w.heap.size, 0, none⟩ = some (.int .u64 x.1.1) := by simp [World.cell?, hbox]
    have hb2 : W2.cell? ⟨w.heap.size, 1, none⟩ = some (.int .u64 x.1.2) := by simp [World.cell?, hbox]
    have r4 : ∀ n, (Instr.lookup 27 (.map (some e)) (.agg #[.int .u64 x.1.1, .int .u64 x.1.2]) false).run Try.prog (W2.drewN n) = .ok (.int .i64 (bit (decide (x ∈ st.busy)))) (W2.drewN n) := fun n => look_set ((hQ.below (below_drewN (Below.refl _ _) n)).bn) x
    clear hQ hbox hM
    by_cases hxb : x ∈ st.busy
    · have hadd : addQ st x = ({ st with dirty := st.dirty ++ [x] }, false) := by simp [addQ, HV.out, HX.out, hxb]
      have HA := Lib.hid hadd
      simp only [hxb, decide_true, bit, if_true] at r4
      clear hadd hxb
      go_wp2_with fail
      go_quiet (fail)
      go_wp2
      go_ret
      rw [HA.out]
      refine ⟨B', rfl, ⟨_, _, _, _, HW2.out.1.below (below_drewN (Below.refl _ _) _)⟩, HW2.out.2.2.trans (R' := fun _ => False) (Moves.of_below (below_drewN (Below.refl _ _) _) HW2.out.1.lt) (fun _ hr => hr.elim), fun k hk => (HB.out k hk).imp id Nat.le_of_lt⟩
    · have hadd : addQ st x = ({ st with dirty := st.dirty ++ [x], back := st.back ++ [x] }, true) := by simp [addQ, HV.out, HX.out, hxb]
      have HA := Lib.hid hadd
      simp only [hxb, decide_false, bit, if_false] at r4
      clear hadd hxb
      go_wp2_with fail
      go_quiet (fail)
      go_wp2_with fail
      go_region_with (first | (go_at_call 47; refine (put_any g o vf vb (kys st.front) (kys st.back) x.1 _ (FIn.below HW2.out.1.line (by repeat (first | exact Below.refl _ _ | refine Below.drew ?_ | refine below_drewN ?_ _))) (by rw [kys_len]; exact hl)).mono ?_; rintro e5 w5 ⟨vb5, rfl, hf5, hn5, hm5⟩; have HF5 := Lib.hid hf5; have HN5 := Lib.hid hn5; have HM5 := Lib.hid hm5; clear hf5 hn5 hm5))
      go_wp2
      go_ret
      rw [HA.out]
      have hb5 : Below W2.heap.size W2 (W2.drewN nq) := below_drewN (Below.refl _ _) _
      have hq5 := (HW2.out.1.below (hb5.drew)).moved (f := st.front) (b := st.back ++ [x]) (by rw [kys_snoc]; exact HF5.out) HM5.out (fun r hr => by
        rcases hr with hr | hr
        · exact .inl (HW2.out.1.inf r hr)
        · rcases HN5.out with h | ⟨k, h, hk⟩
          · exact .inl (HW2.out.1.inb r (by rw [← h]; exact hr))
          · rw [h] at hr; injection hr with hr; subst hr; exact .inr hk) (fun e => by cases e)
      have hz := HW2.out.2.2.size
      have hlow : ∀ r, B' r → B r ∨ w.heap.size ≤ r := fun r hr => (HB.out r hr).imp id Nat.le_of_lt
      refine ⟨_, rfl, ⟨_, _, _, _, hq5⟩, HW2.out.2.2.trans ((Moves.of_below (R := fun k => vb.ownBlock = some k) hb5.drew HW2.out.1.lt).trans (HM5.out.wide (by omega)) (fun r hr => .inl hr)) (fun r hr => hlow r (HW2.out.1.inb r hr)), fun k hk => ?_⟩
      rcases hk with hk | hk | hk
      · exact hlow k hk
      · exact hlow k (HW2.out.1.inf k hk)
      · rcases HN5.out with h | ⟨k', h, hk'⟩
        · exact hlow k (HW2.out.1.inb k (by rw [← h]; exact hk))
        · rw [h] at hk; injection hk with hk; subst hk
          have : W2.heap.size ≤ k' := hk'
          exact .inr (by omega)

theorem add_any (g o : Nat) (B : Nat → Prop) (st : QSt) (x : KO) (w : World) (h : QIn w g o st B) (hl : st.back.length < 1000000) :
    Calls Try.prog 13 #[.pointer (some ⟨g, o, none⟩), .agg #[.int .u64 x.1.1, .int .u64 x.1.2]] w (QSays w g o B (addQ st x).1 (.bool (addQ st x).2)) := by
  obtain ⟨vf, vb, md, mb, h⟩ := h
  by_cases hno : st.over = true ∨ x ∈ st.dirty
  · have : addQ st x = (st, false) := by rw [addQ, if_pos hno]
    rw [this]
    exact add_no g o B st x w vf vb md mb h hno
  · exact add_yes g o B st x w vf vb md mb h (by simpa using fun e => hno (.inl e)) (fun e => hno (.inr e)) hl
end Go.Proofs.Ytfnabpmdjfejbaa
