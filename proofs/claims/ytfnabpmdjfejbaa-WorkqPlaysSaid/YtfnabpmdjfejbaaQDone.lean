/- workq's Done, Shut, Over, walked. -/
import Derived.Test.YtfnabpmdjfejbaaQAdd
namespace Go.Proofs.Ytfnabpmdjfejbaa
set_option linter.unusedSimpArgs false
set_option linter.unusedVariables false
open Go.RowKit Go.Lib
open Go.ChangeMaps (setBlock)

/-- delete, as a step of a region that draws. -/
theorem step_delete {P : Program} {ops : Array Oper} {o : Oper} {a : Act} {w w' : World} {K : Act → World → Prop} {Q : Exit → Act → World → Prop} {E : Prop}
    (hg : o.guard = none) (m x : Operand) (t k : TypeId) (hop : o.op = Op.call { callee := Callee.builtin Builtin.delete, args := #[m, x], argTypes := #[t, k] })
    (mv kv : Value) (hm : a.eval m = mv) (hx : a.eval x = kv) (hrun : ∀ ty, (Builtin.delete_ #[t, k] ty #[mv, kv]).run P w = .ok (.tuple #[]) w') (hK : K (a.put o.dst (.tuple #[])) w') :
    if Region.wanted o (yielded ops a.tmps) = true then Oper.wp P o a w K Q else E := by
  have hw : Region.wanted o (yielded ops a.tmps) = true := by simp [Region.wanted, hg]
  rw [if_pos hw]
  unfold Oper.wp
  simp [execOp, hop, resolve, invoke, builtin, hm, hx, hrun, Result.andThen]
  exact hK

theorem drop_set' {w : World} {d : Nat} {l : List KO} (h : SetIn w d l) (x : KO) :
    ∃ o, (∀ ty, (Builtin.delete_ #[27, 32] ty #[.map (some d), .agg #[.int .u64 x.1.1, .int .u64 x.1.2]]).run Try.prog w = .ok (.tuple #[]) (setBlock w d o)) ∧ SetIn (setBlock w d o) d (strikeL l x) := by
  obtain ⟨o, h1, h2⟩ := drop_set h x 0
  refine ⟨o, fun ty => ?_, h2⟩
  exact h1

/-- Behind a Put to the line. -/
theorem says_put {w W2 W3 w5 : World} {g o : Nat} {st st2 : QSt} {x : KO} {vf vb vf0 vb0 vb5 : Value} {md mb md0 mb0 : Option Nat} {B : Nat → Prop} {v : Value} (hmd : md ≠ none) (h0 : QAt w g o st2 vf0 vb0 md0 mb0 B) (h : QAt W2 g o st vf vb md mb B) (hm : Moves w W2 g o 5 B) (hb : Below W2.heap.size W2 W3)
    (hf : FIn w5 g o vf vb5 (kys st.front) (kys st.back ++ [x.1])) (hn : vb5.ownBlock = vb.ownBlock ∨ ∃ k, vb5.ownBlock = some k ∧ W3.heap.size ≤ k) (hm5 : Moves W3 w5 g o 2 (fun k => vb.ownBlock = some k)) :
    QSays w g o B { st with back := st.back ++ [x] } v (.returned v) w5 := by
  have hq5 := (h.below hb).moved (f := st.front) (b := st.back ++ [x]) (by rw [kys_snoc]; exact hf) hm5 (fun r hr => by
    rcases hr with hr | hr
    · exact .inl (h.inf r hr)
    · rcases hn with h' | ⟨k, h', hk⟩
      · exact .inl (h.inb r (by rw [← h']; exact hr))
      · rw [h'] at hr; injection hr with hr; subst hr; exact .inr hk) (fun e => absurd e hmd)
  have hz := hm.size
  have hz3 := hb.size
  refine ⟨_, rfl, ⟨_, _, _, _, hq5⟩, hm.trans ((Moves.of_below (R := fun k => vb.ownBlock = some k) hb h.lt).trans (hm5.wide (by omega)) (fun r hr => .inl hr)) (fun r hr => .inl (h.inb r hr)), fun k hk => ?_⟩
  rcases hk with hk | hk | hk
  · exact .inl hk
  · exact .inl (h.inf k hk)
  · rcases hn with h' | ⟨k', h', hk'⟩
    · exact .inl (h.inb k (by rw [← h']; exact hk))
    · rw [h'] at hk; injection hk with hk; subst hk
      exact .inr (by omega)

def doneQ (st : QSt) (x : KO) : QSt × Bool × Int :=
  if x ∈ st.busy then
    (if x ∈ st.dirty then ({ st with busy := strikeL st.busy x, back := st.back ++ [x] }, true, 0) else ({ st with busy := strikeL st.busy x }, false, 0))
  else (st, false, 5)

set_option maxRecDepth 100000 in
set_option maxHeartbeats 2000000 in
theorem done_no (g o : Nat) (B : Nat → Prop) (st : QSt) (x : KO) (w : World) (vf vb : Value) (md mb : Option Nat) (h : QAt w g o st vf vb md mb B) (hno : x ∉ st.busy) :
    Calls Try.prog 11 #[.pointer (some ⟨g, o, none⟩), .agg #[.int .u64 x.1.1, .int .u64 x.1.2]] w (QSays w g o B st (.tuple #[.bool false, .int .i64 5])) := by
  have HE := Lib.hid fun w' => says_below (w' := w') (v := .tuple #[.bool false, .int .i64 5]) h
  have r2 : ∀ W, Below w.heap.size w W → W.cell? ⟨g, o + 3, none⟩ = some (.map mb) := fun W hW => (hW.cell (p := ⟨g, _, none⟩) h.lt).trans h.cb
  have r4 : ∀ n, (Instr.lookup 27 (.map mb) (.agg #[.int .u64 x.1.1, .int .u64 x.1.2]) false).run Try.prog ((w.alloc (.cells #[.int .u64 x.1.1, .int .u64 x.1.2] 32)).drewN n) = .ok (.int .i64 0) ((w.alloc (.cells #[.int .u64 x.1.1, .int .u64 x.1.2] 32)).drewN n) := fun n => by
    have := look_set ((h.below (below_drewN (balloc (Below.refl _ _) (.cells #[.int .u64 x.1.1, .int .u64 x.1.2] 32)) n)).bn) x
    simpa [hno, bit] using this
  clear h hno
  go_enter Try.func11, Try.ntmps11
  go_wp2_with fail
  go_quiet (fail)
  go_wp2
  go_ret2
  exact HE.out _ (below_drewN (balloc (Below.refl _ _) _) _)

set_option maxRecDepth 100000 in
set_option maxHeartbeats 4000000 in
theorem done_yes (g o : Nat) (B : Nat → Prop) (st : QSt) (x : KO) (w : World) (vf vb : Value) (md mb : Option Nat) (h : QAt w g o st vf vb md mb B) (hx : x ∈ st.busy) (hl : st.back.length < 1000000) :
    Calls Try.prog 11 #[.pointer (some ⟨g, o, none⟩), .agg #[.int .u64 x.1.1, .int .u64 x.1.2]] w (QSays w g o B (doneQ st x).1 (.tuple #[.bool (doneQ st x).2.1, .int .i64 (doneQ st x).2.2])) := by
  obtain ⟨e, rfl⟩ : ∃ e, mb = some e := by
    cases mb with
    | none => have := h.bn; rw [show st.busy = [] from this] at hx; simp at hx
    | some e => exact ⟨e, rfl⟩
  obtain ⟨d, rfl⟩ : ∃ d, md = some d := by
    cases md with
    | none => have := h.both.1 rfl; cases this
    | some d => exact ⟨d, rfl⟩
  have H := Lib.hid h
  have r2 : ∀ W, Below w.heap.size w W → W.cell? ⟨g, o + 3, none⟩ = some (.map (some e)) := fun W hW => (hW.cell (p := ⟨g, _, none⟩) h.lt).trans h.cb
  have r4 : ∀ n, (Instr.lookup 27 (.map (some e)) (.agg #[.int .u64 x.1.1, .int .u64 x.1.2]) false).run Try.prog ((w.alloc (.cells #[.int .u64 x.1.1, .int .u64 x.1.2] 32)).drewN n) = .ok (.int .i64 1) ((w.alloc (.cells #[.int .u64 x.1.1, .int .u64 x.1.2] 32)).drewN n) := fun n => by
    have := look_set ((h.below (below_drewN (balloc (Below.refl _ _) (.cells #[.int .u64 x.1.1, .int .u64 x.1.2] 32)) n)).bn) x
    simpa [hx, bit] using this
  have HX := Lib.hid hx
  have hglt := h.lt
  clear h hx
  go_enter Try.func11, Try.ntmps11
  go_wp2_with fail
  go_quiet (fail)
  obtain ⟨W, hW⟩ : ∃ W : World, W = (w.alloc (.cells #[.int .u64 x.1.1, .int .u64 x.1.2] 32)).drewN nq := ⟨_, rfl⟩
  rw [← hW]
  have hb0 : Below w.heap.size w W := by rw [hW]; exact below_drewN (balloc (Below.refl _ _) _) _
  have hbox : W.heap[w.heap.size]? = some (.cells #[.int .u64 x.1.1, .int .u64 x.1.2] 32 (0, 0)) := by rw [hW]; exact heap_alloc_new _ _
  clear hW r2 r4
  have hQ := H.out.below hb0
  have hcb := hQ.cb
  have hb1 : W.cell? ⟨w.heap.size, 0, none⟩ = some (.int .u64 x.1.1) := by simp [World.cell?, hbox]
  have hb2 : W.cell? ⟨w.heap.size, 1, none⟩ = some (.int .u64 x.1.2) := by simp [World.cell?, hbox]
  obtain ⟨o5, hs5, hset5⟩ := drop_set' (w := W.drew) (l := st.busy) (d := e) hQ.bn x
  have HS5 := Lib.hid hset5
  have HR5 := Lib.hid hs5
  have HQ := Lib.hid hQ
  have HBx := Lib.hid hbox
  have Hb0 := Lib.hid hb0
  clear hset5 hs5 hQ hbox hb0
  go_wp2_with fail
  go_region_law (refine step_delete (by rfl) (.tmp 20) (.tmp 21) _ _ (by rfl) _ _ (by rfl) (by rfl) HR5.out ?_)
  all_goals
    obtain ⟨W2, hW2⟩ : ∃ W2 : World, W2 = setBlock W.drew e o5 := ⟨_, rfl⟩
    rw [← hW2]
    have hen : e ≠ w.heap.size := by have := H.out.low e (H.out.inz e rfl); omega
    have heg : e ≠ g := fun h => H.out.notg (h ▸ H.out.inz e rfl)
    have HW2 : Hid (QAt W2 g o { st with busy := strikeL st.busy x } vf vb (some d) (some e) B ∧ W2.heap[w.heap.size]? = some (.cells #[.int .u64 x.1.1, .int .u64 x.1.2] 32 (0, 0)) ∧ Moves w W2 g o 5 B) := by
      have q := (HQ.out.below ((Below.refl _ W).drew)).setBusy (x := o5) HS5.out
      subst hW2
      exact ⟨q, (setBlock_other (Ne.symm hen)).trans HBx.out, (Moves.of_below Hb0.out.drew H.out.lt).block_ _ heg (.inl (H.out.inz e rfl))⟩
    clear hW2 hcb hb1 hb2 hen heg
    obtain ⟨hQ, hbox, hM⟩ := HW2.out
    have hcd := hQ.cd
    have hb1 : W2.cell? ⟨w.heap.size, 0, none⟩ = some (.int .u64 x.1.1) := by simp [World.cell?, hbox]
    have hb2 : W2.cell? ⟨w.heap.size, 1, none⟩ = some (.int .u64 x.1.2) := by simp [World.cell?, hbox]
    have hq0 : SetAt W2 (some d) st.dirty := hQ.dn
    have Hq0 := Lib.hid hq0
    clear hQ hbox hM hq0
    by_cases hxd : x ∈ st.dirty
    · have r4 : ∀ n, (Instr.lookup 27 (.map (some d)) (.agg #[.int .u64 x.1.1, .int .u64 x.1.2]) false).run Try.prog (W2.drewN n) = .ok (.int .i64 1) (W2.drewN n) := fun n => by
        have := look_set (Hq0.out.block (w' := W2.drewN n) (fun _ _ => rfl)) x
        simpa [hxd, bit] using this
      have r5 : (Instr.lookup 27 (.map (some d)) (.agg #[.int .u64 x.1.1, .int .u64 x.1.2]) false).run Try.prog W2.drew = .ok (.int .i64 1) W2.drew := r4 1
      have HD := Lib.hid (show doneQ st x = ({ st with busy := strikeL st.busy x, back := st.back ++ [x] }, true, 0) by simp [doneQ, HX.out, hxd])
      clear hxd
      go_wp2_with fail
      go_region_with (first | (go_at_call 47; refine (put_any g o vf vb (kys st.front) (kys st.back) x.1 _ (FIn.below HW2.out.1.line (by repeat (first | exact Below.refl _ _ | refine Below.drew ?_ | refine below_drewN ?_ _))) (by rw [kys_len]; exact hl)).mono ?_; rintro e5 w5 ⟨vb5, rfl, hf5, hn5, hm5⟩; have HF5 := Lib.hid hf5; have HN5 := Lib.hid hn5; have HM5 := Lib.hid hm5; clear hf5 hn5 hm5))
      all_goals
        go_wp2
        go_ret2
        rw [HD.out]
        exact says_put (by simp) H.out HW2.out.1 HW2.out.2.2 (by repeat (first | exact Below.refl _ _ | refine Below.drew ?_ | refine below_drewN ?_ _)) HF5.out HN5.out HM5.out
    · have r4 : ∀ n, (Instr.lookup 27 (.map (some d)) (.agg #[.int .u64 x.1.1, .int .u64 x.1.2]) false).run Try.prog (W2.drewN n) = .ok (.int .i64 0) (W2.drewN n) := fun n => by
        have := look_set (Hq0.out.block (w' := W2.drewN n) (fun _ _ => rfl)) x
        simpa [hxd, bit] using this
      have HD := Lib.hid (show doneQ st x = ({ st with busy := strikeL st.busy x }, false, 0) by simp [doneQ, HX.out, hxd])
      clear hxd
      go_wp2_with fail
      go_quiet (fail)
      go_wp2
      go_ret2
      rw [HD.out]
      exact ⟨B, rfl, ⟨_, _, _, _, HW2.out.1.below (below_drewN (Below.refl _ _) _)⟩, HW2.out.2.2.trans (R' := fun _ => False) (Moves.of_below (below_drewN (Below.refl _ _) _) HW2.out.1.lt) (fun _ hr => hr.elim), fun k hk => .inl hk⟩

theorem done_any (g o : Nat) (B : Nat → Prop) (st : QSt) (x : KO) (w : World) (h : QIn w g o st B) (hl : st.back.length < 1000000) :
    Calls Try.prog 11 #[.pointer (some ⟨g, o, none⟩), .agg #[.int .u64 x.1.1, .int .u64 x.1.2]] w (QSays w g o B (doneQ st x).1 (.tuple #[.bool (doneQ st x).2.1, .int .i64 (doneQ st x).2.2])) := by
  obtain ⟨vf, vb, md, mb, h⟩ := h
  by_cases hx : x ∈ st.busy
  · exact done_yes g o B st x w vf vb md mb h hx hl
  · have : doneQ st x = (st, false, 5) := by rw [doneQ, if_neg hx]
    rw [this]
    exact done_no g o B st x w vf vb md mb h hx

set_option maxRecDepth 100000 in
set_option maxHeartbeats 2000000 in
theorem shut_any (g o : Nat) (B : Nat → Prop) (st : QSt) (w : World) (h : QIn w g o st B) :
    Calls Try.prog 12 #[.pointer (some ⟨g, o, none⟩)] w (QSays w g o B { st with over := true } (.bool (!st.over))) := by
  obtain ⟨vf, vb, md, mb, h⟩ := h
  have H := Lib.hid h
  have c1 := h.co
  have c2 := h.fo
  cases hov : st.over with
  | true =>
    rw [hov] at c1
    have HV := Lib.hid hov
    clear h hov
    go_enter Try.func12, Try.ntmps12
    go_wp2
    go_ret
    refine ⟨B, rfl, ⟨vf, vb, md, mb, ?_⟩, Moves.refl _ _ _ _ _, fun k hk => .inl hk⟩
    have h := H.out
    exact ⟨h.line, h.cd, h.cb, by rw [h.co, HV.out], h.fd, h.fb, h.fo, h.dn, h.bn, h.both, h.apart, h.inf, h.inb, h.ind, h.inz, h.low, h.notg, h.mt⟩
  | false =>
    rw [hov] at c1
    have hg := h.lt
    clear h hov
    go_enter Try.func12, Try.ntmps12
    go_wp2
    go_ret
    have h := H.out
    have hc : ∀ j, j ≠ o + 4 → (w.setCell ⟨g, o + 4, none⟩ (.bool true)).cell? ⟨g, j, none⟩ = w.cell? ⟨g, j, none⟩ := fun j hj => World.cell?_setCell_other _ _ _ _ (fun e => by injection e with _ e _; omega)
    have hf : ∀ j, (w.setCell ⟨g, o + 4, none⟩ (.bool true)).frozen? ⟨g, j, none⟩ = w.frozen? ⟨g, j, none⟩ := fun j => World.frozen?_setCell _ _ _ _
    have hb : ∀ k, B k → (w.setCell ⟨g, o + 4, none⟩ (.bool true)).heap[k]? = w.heap[k]? := fun k hk => Below.heap_setCell _ _ _ _ (fun e => h.notg (by rw [show k = g from e] at hk; exact hk))
    obtain ⟨h1, h2, h3, h4, h5, h6, h7⟩ := h.line
    refine ⟨B, rfl, ⟨vf, vb, md, mb, ⟨⟨(hc _ (by omega)).trans h1, (hc _ (by omega)).trans h2, (hf _).trans h3, (hf _).trans h4, h5.block fun r hr => hb r (h.inf r hr), h6.block fun r hr => hb r (h.inb r hr), h7⟩,
      (hc _ (by omega)).trans h.cd, (hc _ (by omega)).trans h.cb, World.cell?_setCell_same' _ _ _ (by rw [h.co]; rfl), (hf _).trans h.fd, (hf _).trans h.fb, (hf _).trans h.fo, h.dn.block fun d e => hb d (h.ind d e), h.bn.block fun d e => hb d (h.inz d e), h.both, h.apart, h.inf, h.inb, h.ind, h.inz,
      fun k hk => by have := h.low k hk; simpa [World.setCell] using this, h.notg, h.mt⟩⟩, Moves.setCell _ (by omega) (by omega), fun k hk => .inl hk⟩

set_option maxRecDepth 100000 in
set_option maxHeartbeats 2000000 in
theorem over_any (g o : Nat) (B : Nat → Prop) (st : QSt) (w : World) (h : QIn w g o st B) (hl : st.front.length + st.back.length < 1000000) :
    Calls Try.prog 22 #[.pointer (some ⟨g, o, none⟩)] w fun e w' => e = .returned (.bool (st.over && decide (st.front.length + st.back.length = 0))) ∧ Below w.heap.size w w' := by
  obtain ⟨vf, vb, md, mb, h⟩ := h
  have H := Lib.hid h
  have c1 := h.co
  cases hov : st.over with
  | false =>
    rw [hov] at c1
    clear h hov
    go_enter Try.func22, Try.ntmps22
    go_wp2
    go_ret
    exact ⟨rfl, Below.refl _ _⟩
  | true =>
    rw [hov] at c1
    clear h hov
    by_cases hz : st.front.length + st.back.length = 0
    · have e1 : decide (st.front.length + st.back.length = 0) = true := by simpa using hz
      have HZ := Lib.hid hz
      rw [e1]
      clear hz e1
      go_enter Try.func22, Try.ntmps22
      go_wp2_with (go_at_call 55; refine (len_any g o vf vb _ _ _ H.out.line (by rw [kys_len]; omega) (by rw [kys_len]; omega)).mono ?_; rw [kys_len, kys_len, HZ.out]; rintro e w1 ⟨rfl, hb1⟩)
      go_ret
      exact ⟨rfl, hb1⟩
    · have e1 : decide (st.front.length + st.back.length = 0) = false := by simpa using hz
      rw [e1]
      have hz' : 0 < st.front.length + st.back.length := by omega
      clear hz e1
      go_enter Try.func22, Try.ntmps22
      go_wp2_with (go_at_call 55; refine (len_any g o vf vb _ _ _ H.out.line (by rw [kys_len]; omega) (by rw [kys_len]; omega)).mono ?_; rw [kys_len, kys_len]; rintro e w1 ⟨rfl, hb1⟩)
      go_ret
      refine ⟨ret_bool ?_, hb1⟩
      show ((st.front.length : Int) + (st.back.length : Int) == 0) = false
      rw [beq_eq_false_iff_ne]
      omega
end Go.Proofs.Ytfnabpmdjfejbaa
