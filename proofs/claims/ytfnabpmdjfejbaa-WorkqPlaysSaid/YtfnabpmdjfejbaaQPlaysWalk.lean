/- The walk of WorkqPlays. -/
import Derived.Test.YtfnabpmdjfejbaaPStep
namespace Go.Proofs.Ytfnabpmdjfejbaa
set_option linter.unusedSimpArgs false
set_option linter.unusedVariables false
open Go.RowKit Go.Lib

abbrev xObj (vl vb vd : Value) (ov : Bool) : Obj := .cells #[vl, vb, vd, .bool ov] 44 (0, 0)

theorem PStep.put4 {w0 W : World} {H : Nat} {X : List (Nat × Obj)} {st : QSt} {vl vb vd : Value} {x : RQ} (h : PStep w0 H X st vl vb vd x W) {r : Nat} {p q s t : Value} {T : TypeId} (hr : (r, Obj.cells #[p, q, s, t] T (0, 0)) ∈ X) (a b c d : Value) :
    PStep w0 H [(r, .cells #[a, b, c, d] T (0, 0))] st vl vb vd x ((((W.setCell ⟨r, 0, none⟩ a).setCell ⟨r, 1, none⟩ b).setCell ⟨r, 2, none⟩ c).setCell ⟨r, 3, none⟩ d) := by
  refine ((((h.set hr 0 a).set (List.mem_cons_self ..) 1 b).set (List.mem_cons_self ..) 2 c).set (List.mem_cons_self ..) 3 d).drop ?_
  intro z hz
  rw [List.mem_singleton.1 hz]
  exact List.mem_cons_self ..
theorem PStep.put1 {w0 W : World} {H : Nat} {X : List (Nat × Obj)} {st : QSt} {vl vb vd : Value} {x : RQ} (h : PStep w0 H X st vl vb vd x W) {r : Nat} {p q s t : Value} {T : TypeId} (hr : (r, Obj.cells #[p, q, s, t] T (0, 0)) ∈ X) (d : Value) :
    PStep w0 H [(r, .cells #[p, q, s, d] T (0, 0))] st vl vb vd x (W.setCell ⟨r, 3, none⟩ d) := by
  refine (h.set hr 3 d).drop ?_
  intro z hz
  rw [List.mem_singleton.1 hz]
  exact List.mem_cons_self ..
theorem PStep.overR {w0 W : World} {H : Nat} {X : List (Nat × Obj)} {st : QSt} {vl vb vd : Value} {x : RQ} (h : PStep w0 H X st vl vb vd x W) (b : Bool) : PStep w0 H X st vl vb vd { x with over := b } W := by
  obtain ⟨B, h1, h2, h3, h4, h5, h6⟩ := h
  exact ⟨B, h1, h2, h3, ⟨h4.l, h4.b, h4.d⟩, h5, h6⟩
theorem get_tells {st st' : QSt} {x : RQ} {y : Ky} {is : Bool} (ht : Tells st x) (hc : (is = false ∧ y = (0, 0) ∧ st' = st ∧ st.front = [] ∧ st.back = []) ∨ ∃ f k, is = true ∧ y = k.1 ∧ (turnK st.front st.back).1 = f ++ [k] ∧ st' = gotQ st f k) :
    Tells st' (getR x).1 ∧ (getR x).2 = (y, is) := by
  rcases hc with ⟨rfl, rfl, rfl, hz⟩ | ⟨f, k, rfl, rfl, hf, rfl⟩
  · rw [tells_none ht hz]
    exact ⟨ht, rfl⟩
  · exact tells_got ht hf
theorem get_small2 {st st' : QSt} {x : Ky} {is : Bool} {n : Nat} (h : st.small n) (hc : (is = false ∧ x = (0, 0) ∧ st' = st ∧ st.front = [] ∧ st.back = []) ∨ ∃ f k, is = true ∧ x = k.1 ∧ (turnK st.front st.back).1 = f ++ [k] ∧ st' = gotQ st f k) : st'.small (n + 1) := by
  rcases hc with ⟨_, _, rfl, _⟩ | ⟨f, k, _, _, hf, rfl⟩
  · exact h.mono (Nat.le_succ _)
  · exact small_got h hf
theorem pstep_shutR {w0 W : World} {H : Nat} {X : List (Nat × Obj)} {st : QSt} {vl vb vd : Value} {x : RQ} (h : PStep w0 H X st vl vb vd x W) (ht : Tells st x) :
    Calls Try.prog 12 #[.pointer (some ⟨H, 0, none⟩)] W fun e W' => e = .returned (.bool (!x.over)) ∧ PStep w0 H X { st with over := true } vl vb vd x W' := by
  rw [ht.over]
  exact pstep_shut h
theorem PStep.drewE {w0 W : World} {H : Nat} {X : List (Nat × Obj)} {st : QSt} {vl vb vd : Value} {x : RQ} (h : PStep w0 H X st vl vb vd x W) : PStep w0 H X st vl vb vd x W.drew := h.below (Below.drew (Below.refl _ _))

set_option maxRecDepth 100000 in
set_option maxHeartbeats 4000000 in
theorem plays_walk (v : Value) (l : List ActD) (w : World) (hv : RowIn 3 actC w v l) (hok : ∀ p ∈ l, p.2.ok) (hl : l.length ≤ maxLen) :
    Calls Try.prog 4 #[v] w fun e w' => e = .returned (.bool true) ∧ Below w.heap.size w w' := by
  have hl' : l.length ≤ 9223372036854775807 := hl
  obtain ⟨A, c, rfl, -⟩ := id hv
  by_cases hn : l.length ≤ 80
  · have HV := Lib.hid hv
    have HO := Lib.hid hok
    have q80 : ¬ (80 : Int) < (l.length : Int) := by omega
    clear hv hok hl
    go_enter Try.func4, Try.ntmps4
    go_wp2_with (first
      | (go_at_call 9; refine (qawake_any _).mono ?_; rintro e w1 ⟨rfl, hb1⟩))
    have hp0 : PStep w1 w1.heap.size [(w1.heap.size + 1, xObj (.slice none 0 0) (.slice none 0 0) (.slice none 0 0) false)] s0 (.slice none 0 0) (.slice none 0 0) (.slice none 0 0) ⟨[], [], [], false⟩
        ((w1.alloc (.cells #[.slice none 0 0, .slice none 0 0, .map none, .map none, .bool false] 29)).alloc (.cells #[.slice none 0 0, .slice none 0 0, .slice none 0 0, .bool false] 44)) := by
      obtain ⟨a, b, c, d, hq⟩ := queue_new w1 29
      refine ⟨_, ⟨a, b, c, d, hq.below (balloc (Below.refl _ _) _)⟩, fun k hk => hk.elim, fun p hp => ?_, ⟨⟨RowIn.nil, fun _ _ _ _ _ h => absurd h (by simp)⟩, ⟨RowIn.nil, fun _ _ _ _ _ h => absurd h (by simp)⟩, ⟨RowIn.nil, fun _ _ _ _ _ h => absurd h (by simp)⟩⟩, balloc (balloc (Below.refl _ _) _) _, by simp; omega⟩
      rw [List.mem_singleton.1 hp]
      exact ⟨Nat.lt_succ_self _, fun h => h.elim, box_new _ _ _⟩
    go_loopg [27] l.length (fun g s27 wr => ∃ (k : Nat) (st : QSt) (x : RQ) (vl vb vd : Value), k ≤ l.length ∧ l.length - k ≤ g ∧ s27 = .int .i64 k ∧ PStep w1 w1.heap.size [(w1.heap.size + 1, xObj vl vb vd x.over)] st vl vb vd x wr ∧ Tells st x ∧ st.small k ∧ x.small k)
    case atStart => exact ⟨0, s0, _, _, _, _, Nat.zero_le _, Nat.le_refl _, rfl, hp0, tells_start, ⟨by decide, by decide, by decide⟩, ⟨by decide, by decide, by decide⟩⟩
    case round =>
      clear hp0
      obtain ⟨k, st, x, vl, vb, vd, hk, hg, rfl, hp, ht, hs, hsx⟩ := hrel
      have hbw : Below w.heap.size w wr := by
        obtain ⟨_, _, _, _, _, h5, _⟩ := hp
        exact hb1.trans (h5.mono hb1.size)
      by_cases hlt : k < l.length
      · obtain ⟨b, o, rfl, hbl, hat⟩ := (HV.out.below hbw).at_ hlt
        have hxok : (l[k]).2.ok := HO.out _ (List.getElem_mem hlt)
        obtain ⟨a, ha⟩ : ∃ a, l[k] = a := ⟨_, rfl⟩
        rw [ha] at hat hxok
        clear ha
        obtain ⟨kd, y⟩ := a
        have c0 := hat 0 _ rfl
        have c1 := hat 1 _ rfl
        have c2 := hat 2 _ rfl
        rw [Nat.add_zero] at c0
        simp only at c0 c1 c2 hxok
        clear hat
        have hk1 : (k : Int) < (l.length : Int) := by omega
        have hk0 : (0 : Int) ≤ (k : Int) := by omega
        obtain ⟨Al, cl, rfl, -⟩ := id hp.rows.l.1
        obtain ⟨Ab, cb, rfl, -⟩ := id hp.rows.b.1
        obtain ⟨Ad, cd, rfl, -⟩ := id hp.rows.d.1
        have hp1 := hp.push (.cells #[.int .i64 kd, .int .u64 y.1, .int .u64 y.2] 34)
        obtain ⟨x1, x2, x3, _⟩ := box_at (Below.refl _ _) (hp1.box (w1.heap.size + 1) _ (.tail _ (.head _)))
        by_cases e1 : kd = 1
        · subst e1
          clear q80
          have C1 := pstep_get hp1 (by have := hs.l; omega)
          have HC1 := Lib.hid C1
          clear C1
          go_wp2_with (first
            | (go_at_call 10
               refine HC1.out.mono ?_; rintro e w2 ⟨m, is, st2, rfl, hp2, hcase⟩
               have hg2 := get_tells ht hcase
               have hs2 := get_small2 hs hcase
               have hsx2 := smallR_get hsx
               clear hcase
               obtain ⟨⟨x2, r2⟩, hr⟩ : ∃ z, z = getR x := ⟨_, rfl⟩
               rw [← hr] at hg2 hsx2
               simp only at hg2 hsx2
               obtain ⟨ht2, rfl⟩ := hg2
               have HR := Lib.hid hr
               have HT2 := Lib.hid ht2
               clear hr ht2
               have hp2' := hp2.push (.cells #[.int .u64 m.1, .int .u64 m.2] 32)
               obtain ⟨x1, x2', x3, _⟩ := box_at (Below.refl _ _) (hp2.box (w1.heap.size + 1) _ (.tail _ (.head _)))
               have HP2 := Lib.hid hp2'; clear hp2 hp2')
            | (go_at_call 18
               obtain ⟨P, hP, hx, hnext⟩ := HP2.out.ref
               have C2 := rget_any P _ _ _ x _ hP hx (hsx.mono (by omega))
               rw [← HR.out] at C2
               refine C2.mono ?_; rintro e w3 ⟨vl2, vb2, vd2, he, hx2, hb2⟩
               clear C2
               subst he
               simp only at hx2
               have hp3 := hnext _ _ _ _ _ hx2 hb2
               obtain ⟨Al2, cl2, rfl, -⟩ := id hx2.l.1
               obtain ⟨Ab2, cb2, rfl, -⟩ := id hx2.b.1
               obtain ⟨Ad2, cd2, rfl, -⟩ := id hx2.d.1
               obtain ⟨y1, y2, y3, _⟩ := box_at (Below.refl _ _) (hp3.box (w1.heap.size + 1) _ (.tail _ (.tail _ (.head _))))
               obtain ⟨z1, z2, z3, _⟩ := box_at (Below.refl _ _) (hp3.box w2.heap.size _ (.head _))
               clear hnext hP hx hx2
               have HP3 := Lib.hid ((hp3.push (xObj (.slice Al2 x2.line.length cl2) (.slice Ab2 x2.busy.length cb2) (.slice Ad2 x2.dirty.length cd2) x2.over)).push (.cells #[.int .u64 m.1, .int .u64 m.2] 32)); clear hp3))
          refine name_world ?_
          intro W5 hW5
          have hp5w := HP3.out
          rw [← hW5] at hp5w
          clear HP3
          have HP3 := Lib.hid hp5w
          clear y1 y2 y3 z1 z2 z3 x1 x2' x3
          obtain ⟨x1, x2', x3, _⟩ := box_at (Below.refl _ _) (hp5w.box (w1.heap.size + 1) _ (.tail _ (.tail _ (.tail _ (.tail _ (.head _))))))
          obtain ⟨y1, y2, y3, _⟩ := box_at (Below.refl _ _) (hp5w.box w3.heap.size _ (.tail _ (.head _)))
          have hz5 := hp5w.box _ _ (.head _)
          rw [World.size_alloc] at hz5
          obtain ⟨z1, z2, z3, _⟩ := box_at (Below.refl _ _) hz5
          clear hz5
          obtain ⟨t1, t2, t3, _⟩ := box_at (Below.refl _ _) (hp5w.box w2.heap.size _ (.tail _ (.tail _ (.head _))))
          clear hW5 hp5w
          go_region
          all_goals
            go_wp2_with (first
              | (go_at_call 21
                 have hp5 := (HP3.out.put4 (r := w1.heap.size + 1) (.tail _ (.tail _ (.tail _ (.tail _ (.head _))))) (.slice Al2 x2.line.length cl2) (.slice Ab2 x2.busy.length cb2) (.slice Ad2 x2.dirty.length cd2) (.bool x2.over)).drewE
                 obtain ⟨B5, hB5⟩ := hp5.qin
                 refine (told_any _ _ _ B5 st2 x2 _ _ _ _ hB5 hp5.rows HT2.out (hs2.mono (by omega)) (hsx2.mono (by omega))).mono ?_; rintro e w6 ⟨rfl, hb6⟩
                 have HP6 := Lib.hid (hp5.below hb6)))
            go_roundg (l.length - (k + 1))
            case measure => omega
            case rel => exact ⟨k + 1, st2, x2, _, _, _, hlt, Nat.le_refl _, by go_num, HP6.out, HT2.out, hs2, hsx2⟩
        · have q1 : (kd == 1) = false := by simpa using e1
          by_cases e2 : kd = 2
          · subst e2
            clear e1 q1
            have hd := tells_done ht ⟨y, hxok⟩
            have hs2 := small_done hs ⟨y, hxok⟩
            have hsx2 := smallR_done hsx y
            have C1 := pstep_done hp1 ⟨y, hxok⟩ (by have := hs.l; omega)
            simp only at hd C1
            rw [hd.2.1, hd.2.2] at C1
            have ht2 := hd.1
            clear hd
            obtain ⟨st2, hst2⟩ : ∃ z, z = (doneQ st ⟨y, hxok⟩).1 := ⟨_, rfl⟩
            rw [← hst2] at C1 ht2 hs2
            clear hst2
            obtain ⟨⟨x2, r1, r2⟩, hr⟩ : ∃ z, z = doneR x y := ⟨_, rfl⟩
            rw [← hr] at C1 ht2 hsx2
            simp only at C1 ht2 hsx2
            have HR := Lib.hid hr
            have HT2 := Lib.hid ht2
            have HC1 := Lib.hid C1
            clear hr ht2 C1
            rcases Bool.eq_false_or_eq_true r2 with hr2 | hr2
            all_goals
              subst hr2
              go_wp2_with (first
                | (go_at_call 11
                   refine HC1.out.mono ?_; rintro e w2 ⟨rfl, hp2⟩
                   obtain ⟨x1, x2', x3, _⟩ := box_at (Below.refl _ _) (hp2.box (w1.heap.size + 1) _ (.tail _ (.head _)))
                   obtain ⟨u1, u2, u3, _⟩ := box_at (Below.refl _ _) (hp2.box wr.heap.size _ (.head _))
                   have HP2 := Lib.hid hp2; clear hp2)
                | (go_at_call 19
                   obtain ⟨P, hP, hx, hnext⟩ := HP2.out.ref
                   have C2 := rdone_any P _ _ _ x y _ hP hx (hsx.mono (by omega))
                   rw [← HR.out] at C2
                   refine C2.mono ?_; rintro e w3 ⟨vl2, vb2, vd2, he, hx2, hb2⟩
                   clear C2
                   subst he
                   simp only at hx2
                   have hp3 := hnext _ _ _ _ _ hx2 hb2
                   obtain ⟨Al2, cl2, rfl, -⟩ := id hx2.l.1
                   obtain ⟨Ab2, cb2, rfl, -⟩ := id hx2.b.1
                   obtain ⟨Ad2, cd2, rfl, -⟩ := id hx2.d.1
                   obtain ⟨y1, y2, y3, _⟩ := box_at (Below.refl _ _) (hp3.box (w1.heap.size + 1) _ (.tail _ (.head _)))
                   obtain ⟨z1, z2, z3, _⟩ := box_at (Below.refl _ _) (hp3.box wr.heap.size _ (.head _))
                   clear hnext hP hx hx2
                   have HP3 := Lib.hid hp3; clear hp3)
                | (go_at_call 21
                   have hp5 := ((HP3.out.put4 (r := w1.heap.size + 1) (.tail _ (.head _)) (.slice Al2 x2.line.length cl2) (.slice Ab2 x2.busy.length cb2) (.slice Ad2 x2.dirty.length cd2) (.bool x2.over)).push (xObj (.slice Al2 x2.line.length cl2) (.slice Ab2 x2.busy.length cb2) (.slice Ad2 x2.dirty.length cd2) x2.over)).drop (fun z hz => .tail _ hz)
                   obtain ⟨B5, hB5⟩ := hp5.qin
                   refine (told_any _ _ _ B5 st2 x2 _ _ _ _ hB5 hp5.rows HT2.out (hs2.mono (by omega)) (hsx2.mono (by omega))).mono ?_; rintro e w6 ⟨rfl, hb6⟩
                   have HP6 := Lib.hid (hp5.below hb6)))
              go_roundg (l.length - (k + 1))
              case measure => omega
              case rel => exact ⟨k + 1, st2, x2, _, _, _, hlt, Nat.le_refl _, by go_num, HP6.out, HT2.out, hs2, hsx2⟩
          · have q2 : (kd == 2) = false := by simpa using e2
            by_cases e3 : kd = 3
            · subst e3
              clear e1 q1 e2 q2
              have ht2 := tells_shut ht
              have hs2 := small_shut hs
              have hsx2 := smallR_shut hsx
              have HT2 := Lib.hid ht2
              clear ht2
              go_wp2
              go_region_with ((
                go_at_call 12
                refine (pstep_shutR (x := x) (by first | exact hp1 | exact hp1.drewE) ht).mono ?_
                rintro e w2 ⟨rfl, hp2⟩
                obtain ⟨x1', x2', x3', _⟩ := box_at (Below.refl _ _) (hp2.box (w1.heap.size + 1) _ (.tail _ (.head _)))
                have HP3 := Lib.hid (hp2.overR true)
                clear hp2))
              all_goals
                go_wp2_with (first
                  | (go_at_call 21
                     have hp5 := HP3.out.put1 (r := w1.heap.size + 1) (.tail _ (.head _)) (.bool true)
                     obtain ⟨B5, hB5⟩ := hp5.qin
                     refine (told_any _ _ _ B5 _ _ _ _ _ _ hB5 hp5.rows HT2.out (hs2.mono (by omega)) (hsx2.mono (by omega))).mono ?_; rintro e w6 ⟨rfl, hb6⟩
                     have HP6 := Lib.hid (hp5.below hb6)))
                go_roundg (l.length - (k + 1))
                case measure => omega
                case rel => exact ⟨k + 1, _, _, _, _, _, hlt, Nat.le_refl _, by go_num, HP6.out, HT2.out, hs2, hsx2⟩
            · have q3 : (kd == 3) = false := by simpa using e3
              clear e1 e2 e3
              go_wp2_with (first
                | (go_at_call 20
                   obtain ⟨P, hP, hx, hnext⟩ := hp1.ref
                   refine (radd_any P _ _ _ x y _ hP hx (hsx.mono (by omega))).mono ?_; rintro e w2 ⟨vl2, vb2, vd2, rfl, hx2, hb2⟩
                   have hp2 := hnext _ _ _ _ _ hx2 hb2
                   obtain ⟨Al2, cl2, rfl, -⟩ := id hx2.l.1
                   obtain ⟨Ab2, cb2, rfl, -⟩ := id hx2.b.1
                   obtain ⟨Ad2, cd2, rfl, -⟩ := id hx2.d.1
                   have ht2 := (tells_add ht ⟨y, hxok⟩).1
                   have he2 := (tells_add ht ⟨y, hxok⟩).2
                   simp only at ht2 he2
                   have hs2 := small_add hs ⟨y, hxok⟩
                   have hsx2 := smallR_add hsx y
                   obtain ⟨st2, hst2⟩ : ∃ z, z = (addQ st ⟨y, hxok⟩).1 := ⟨_, rfl⟩
                   obtain ⟨x2, hx2e⟩ : ∃ z, z = (addR x y).1 := ⟨_, rfl⟩
                   obtain ⟨r2, hr2e⟩ : ∃ z, z = (addR x y).2 := ⟨_, rfl⟩
                   rw [← hx2e] at hp2 ht2 hsx2
                   rw [← hst2] at ht2 hs2
                   rw [← hr2e] at he2
                   rw [← hx2e, ← hr2e]
                   clear hx2e hr2e hnext hP hx hx2
                   have HP2 := Lib.hid hp2; clear hp2
                   have HE2 := Lib.hid he2; clear he2
                   have HST := Lib.hid hst2; clear hst2
                   have HT2 := Lib.hid ht2; clear ht2
                   obtain ⟨y1, y2, y3, _⟩ := box_at (Below.refl _ _) (HP2.out.box (w1.heap.size + 1) _ (.tail _ (.head _)))
                   obtain ⟨z1, z2, z3, _⟩ := box_at (Below.refl _ _) (HP2.out.box wr.heap.size _ (.head _)))
                | (go_at_call 13
                   refine (pstep_add (HP2.out.push _) ⟨y, hxok⟩ (by have := hs.l; omega)).mono ?_; rintro e w4 ⟨rfl, hp4⟩
                   rw [← HST.out] at hp4
                   rw [HE2.out]
                   obtain ⟨x1, x2', x3, _⟩ := box_at (Below.refl _ _) (hp4.box (w1.heap.size + 1) _ (.tail _ (.tail _ (.head _))))
                   obtain ⟨u1, u2, u3, _⟩ := box_at (Below.refl _ _) (hp4.box w2.heap.size _ (.head _))
                   have HP4 := Lib.hid hp4; clear hp4)
                | (go_at_call 21
                   have hp5 := HP4.out.put4 (r := w1.heap.size + 1) (.tail _ (.tail _ (.head _))) (.slice Al2 x2.line.length cl2) (.slice Ab2 x2.busy.length cb2) (.slice Ad2 x2.dirty.length cd2) (.bool x2.over)
                   obtain ⟨B5, hB5⟩ := hp5.qin
                   refine (told_any _ _ _ B5 st2 x2 _ _ _ _ hB5 hp5.rows HT2.out (hs2.mono (by omega)) (hsx2.mono (by omega))).mono ?_; rintro e w6 ⟨rfl, hb6⟩
                   have HP6 := Lib.hid (hp5.below hb6)))
              go_roundg (l.length - (k + 1))
              case measure => omega
              case rel => exact ⟨k + 1, st2, x2, _, _, _, hlt, Nat.le_refl _, by go_num, HP6.out, HT2.out, hs2, hsx2⟩
      · obtain rfl : k = l.length := by omega
        go_wp2
        go_ret
        exact ⟨rfl, hbw⟩
  · have q80 : (80 : Int) < (l.length : Int) := by omega
    clear hv hok hl
    go_enter Try.func4, Try.ntmps4
    go_wp2_with (first
      | (go_at_call 9; refine (qawake_any _).mono ?_; rintro e w1 ⟨rfl, hb1⟩))
    go_ret
    exact ⟨rfl, hb1⟩
end Go.Proofs.Ytfnabpmdjfejbaa
