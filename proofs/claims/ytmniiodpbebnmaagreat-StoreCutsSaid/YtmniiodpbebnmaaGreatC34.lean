/- A store's Do, kind by kind. -/
import Derived.Test.YtmniiodpbebnmaaGreatC33
namespace Go.Proofs.YtmniiodpbebnmaaGreat

section
set_option linter.unusedSimpArgs false
set_option linter.unusedVariables false
open Go.RowKit Go.Lib Go.Sort
open Go.ChangeMaps (setBlock)

section
variable {B : Nat → Prop} {S : Nat} {c : Cfg} {rs rh n : Nat} {wd : Wd} {d : StoD}
theorem oneW_at {id : ByteArray} {i : Nat} {R : List Itm} (hri : routeI (keyK id).1 (keyK id).2 c.st = (i : Int)) (hR : wd.st[i]? = some R) (a : Act17) : oneW c rs rh wd id a = ({ wd with st := wd.st.set i (oneP c rs rh R (keyK id) a).1 }, (oneP c rs rh R (keyK id) a).2) := by
  have e : atW c id = i := by unfold atW; omega
  unfold oneW
  rw [e, List.getD_eq_getElem?_getD, hR]
  rfl
theorem upd_at {w w' : World} {fp fp' : List Nat} {X : Nat} (hu : Upd w w' fp fp') (hX : X ∉ fp) {o : Obj} (h : w.heap[X]? = some o) : w'.heap[X]? = some o := (hu.block X (Array.getElem?_eq_some_iff.1 h).1 hX).trans h

theorem boxes2 (w : World) (a b : Obj) : ∀ W, W = (w.alloc a).alloc b → Hid (Below w.heap.size w W) ∧ Hid (W.heap[w.heap.size]? = some a) ∧ Hid (W.heap[w.heap.size + 1]? = some b) := fun W hW => by
  rw [hW]
  exact ⟨Lib.hid (balloc (balloc (Below.refl _ _) _) _), Lib.hid (box_old _ _ _), Lib.hid (box_new _ _ _)⟩
theorem keepH {w W w2 : World} {a b : Nat} {o1 o2 : Obj} (hb : Below W.heap.size W w2) (h : Hid (Below w.heap.size w W)) (h1 : Hid (W.heap[a]? = some o1)) (h2 : Hid (W.heap[b]? = some o2)) : Hid (Below w.heap.size w w2) ∧ Hid (w2.heap[a]? = some o1) ∧ Hid (w2.heap[b]? = some o2) :=
  ⟨Lib.hid (bthen h.out hb), Lib.hid ((hb.block _ (Array.getElem?_eq_some_iff.1 h1.out).1).trans h1.out), Lib.hid ((hb.block _ (Array.getElem?_eq_some_iff.1 h2.out).1).trans h2.out)⟩
theorem do_facts (w : World) (h : StoreAt B w S c rs rh n wd d) (hB : ∀ b, w.heap.size ≤ b → B b) (hc : CfgOk c rs rh) (hi : WdOk c rs rh n wd) (kind : Int) (id : ByteArray) (tick val handle : Int) (pl : Pol) (hx : (⟨kind, id, tick, val, handle, pl⟩ : CallD).ok) (h0 : chkC ⟨kind, id, tick, val, handle, pl⟩ = 0) :
    ∃ (i : Nat) (s : St) (R : List Itm) (pe : Int), routeI (keyK id).1 (keyK id).2 c.st = (i : Int) ∧ d.sts[i]? = some s ∧ wd.st[i]? = some R ∧ StrOk w c rs rh n s R ∧ okSt c.st = true ∧ (1 ≤ c.st ∧ c.st ≤ 64) ∧ (d.sts.length : Int) = c.st ∧
      Hid (∀ W, Calls Tryz.prog 42 #[callV ⟨kind, id, tick, val, handle, pl⟩] W fun e w' => e = .returned (.int .i64 0) ∧ Below W.heap.size W w') ∧
      Hid (∀ W, Below w.heap.size w W → StoreAt (fun b => B b ∧ b ≠ w.heap.size + 1) W S c rs rh n wd d) ∧
      (∀ W, Below w.heap.size w W → w.heap.size + 1 < W.heap.size → ∀ b, W.heap.size ≤ b → B b ∧ b ≠ w.heap.size + 1) ∧
      Hid (w.heap.size + 1 ∉ d.fp S) ∧
      Hid (∀ W, Below w.heap.size w W → Calls Tryz.prog 80 #[.pointer (some ⟨S, 0, none⟩)] W fun e w' => e = .returned (.bool true) ∧ w' = W) ∧
      Hid (∀ W, Calls Tryz.prog 81 #[.string id] W fun e w' => e = .returned (.tuple #[.agg #[.int .u64 (keyK id).1, .int .u64 (keyK id).2], .int .i64 pe]) ∧ Below W.heap.size W w') ∧
      Hid (∀ W, Below w.heap.size w W → Calls Tryz.prog 30 #[.pointer (some ⟨S, 0, none⟩), .agg #[.int .u64 (keyK id).1, .int .u64 (keyK id).2]] W fun e w' => e = .returned (.int .i64 (i : Nat)) ∧ Below W.heap.size W w') ∧
      Hid (∀ W, Below w.heap.size w W → Calls Tryz.prog 32 #[.pointer (some ⟨S, 0, none⟩), .int .i64 (i : Nat)] W fun e w' => e = .returned (.pointer (some ⟨s.T, 0, none⟩)) ∧ w' = W) := by
  have hst : okSt c.st = true := by have := hc.cfg; unfold cfgB at this; simp only [Bool.and_eq_true] at this; exact this.1
  have hbd := okSt_bd _ hst
  have hl : (d.sts.length : Int) = c.st := by rw [h.len]; exact hi.len
  have hid : id.size ≤ maxLen := hx.2.1
  obtain ⟨i, s, R, hri, hs, hR, hsk⟩ := h.home hl hst (keyK id)
  obtain ⟨pe, hpe⟩ : ∃ pe : Int, packV id = .tuple #[.agg #[.int .u64 (keyK id).1, .int .u64 (keyK id).2], .int .i64 pe] := by
    unfold packV keyK
    cases idS id with
    | true => exact ⟨0, rfl⟩
    | false => exact ⟨2, rfl⟩
  exact ⟨i, s, R, pe, hri, hs, hR, hsk, hst, hbd, hl, Lib.hid (fun W => h0 ▸ storeCheck_any ⟨kind, id, tick, val, handle, pl⟩ W hx), Lib.hid (fun W hW => h.avoidX (X := w.heap.size + 1) (Nat.le_succ _) hW),
    fun W hW h1 b hb => ⟨hB b (Nat.le_trans hW.size hb), by omega⟩, Lib.hid (fun hq => by have := (h.fpLt _ hq).1; omega), Lib.hid (fun W hW => stoMade_any W (h.below hW) (by omega)), Lib.hid (fun W => hpe ▸ pack_any id W hid),
    Lib.hid (fun W hW => hri ▸ stoHome_any W (h.below hW) (by omega) hl (by omega) (keyK id) (keyK_ok id)), Lib.hid (fun W hW => stoStripe_any W (h.below hW) i s hs (by omega))⟩

set_option maxRecDepth 100000 in
set_option maxHeartbeats 4000000 in
theorem stoDo_1 (w : World) (h : StoreAt B w S c rs rh n wd d) (hB : ∀ b, w.heap.size ≤ b → B b) (hc : CfgOk c rs rh) (hi : WdOk c rs rh n wd) (hh : HomeOk c wd) (ht : (allW wd).length ≤ 400) (hn : n ≤ 100) (x : CallD) (hx : x.ok) (h0 : chkC x = 0) (hk : x.kind = 1) :
    Calls Tryz.prog 28 #[.pointer (some ⟨S, 0, none⟩), callV x] w (StoSays B w S c rs rh (n + 1) (d.fp S) (repV (doW c rs rh wd x).2) (doW c rs rh wd x).1) := by
  obtain ⟨kind, id, tick, val, handle, ⟨p0, p1, p2, p3, p4, p5⟩⟩ := x
  dsimp only at hk
  subst hk
  obtain ⟨i, s, R, pe, hri, hs, hR, hsk, hst, hbd, hl, CK, HST, hB1, HNF, CM, CP, CH, CS⟩ := do_facts w h hB hc hi 1 id tick val handle ⟨p0, p1, p2, p3, p4, p5⟩ hx h0
  have HB1N := Lib.hid hB1
  have hroom := hc.room
  have hkok := keyK_ok id
  obtain ⟨r, hr⟩ : ∃ r, r = doW c rs rh wd ⟨1, id, tick, val, handle, ⟨p0, p1, p2, p3, p4, p5⟩⟩ := ⟨_, rfl⟩
  rw [← hr]
  have hrr : r = ({ wd with st := wd.st.set i (oneP c rs rh R (keyK id) ⟨0, (tick, val), pol0, adv0⟩).1 }, repF (oneP c rs rh R (keyK id) ⟨0, (tick, val), pol0, adv0⟩).2) := by
    rw [hr]
    unfold doW
    rw [if_neg (by rw [h0]; simp)]
    simp only [show ¬ (6 : Int) = 1 by decide, show ¬ (6 : Int) = 2 by decide, show ¬ (6 : Int) = 3 by decide, show ¬ (6 : Int) = 4 by decide, show ¬ (6 : Int) = 5 by decide, if_true, if_false, oneW_at hri hR]
  have herr := (tells_one hsk.tells c rs rh s.ver ⟨keyK id, hkok⟩ ⟨0, (tick, val), pol0, adv0⟩ (show ¬ (0 : Int) < 0 by decide) (show (0 : Int) ≠ 1 by decide) (show ¬ 3 < (0 : Int) by decide)).2
  have CI := Lib.hid (fun W (hW : Below w.heap.size w W) => ingest_all s.T s.M c s.ver s.es rs rh ⟨keyK id, hkok⟩ ⟨0, (tick, val), pol0, adv0⟩ W ((hsk.at_.below hW)) (hsk.sok hc hn) rfl)
  have CA := Lib.hid (fun W (hW : Below w.heap.size w W) (h1 : w.heap.size + 1 < W.heap.size) W' es' hat hab hu ho => (h.avoidX (X := w.heap.size + 1) (Nat.le_succ _) hW).act (w' := W') (hB1 W hW h1) hc hn hs hR ⟨keyK id, hkok⟩ ⟨0, (tick, val), pol0, adv0⟩ (show ¬ (0 : Int) < 0 by decide) (show (0 : Int) ≠ 1 by decide) (show ¬ 3 < (0 : Int) by decide) (es' := es') hat hab hu ho)
  rw [herr] at CI
  dsimp only at herr CI CA
  generalize (oneP c rs rh R (keyK id) ⟨0, (tick, val), pol0, adv0⟩).2 = er at CI hrr
  generalize (oneP c rs rh R (keyK id) ⟨0, (tick, val), pol0, adv0⟩).1 = R' at CA hrr
  have HRR := Lib.hid hrr
  generalize keyK id = k at *
  clear h hc hi hh ht hx h0 hri hs hR hsk hr hB hB1 hst hl hroom hbd hrr herr
  unfold callV
  go_enter Tryz.func28, Tryz.ntmps28
  go_wp2_with (first
    | (go_at_call 42
       refine calls_named ?_
       intro W1 hW1
       obtain ⟨HB1, HX0, HX1⟩ := boxes2 w _ _ W1 hW1
       clear hW1
       refine (CK.out W1).mono ?_
       rintro e w2 ⟨rfl, hb2⟩
       obtain ⟨HB2, HX02, HX12⟩ := keepH hb2 HB1 HX0 HX1
       clear hb2)
    | (go_at_call 80
       refine (CM.out _ HB2.out).mono ?_
       rintro e w3 ⟨rfl, rfl⟩
       obtain ⟨b1, b2, b3⟩ := box_cells (Below.refl _ _) HX02.out)
    | (go_at_call 81
       refine (CP.out _).mono ?_
       rintro e w4 ⟨rfl, hb4⟩
       obtain ⟨HB4, HX04, HX14⟩ := keepH hb4 HB2 HX02 HX12
       clear hb4 b1 b2 b3)
    | (go_at_call 30
       refine calls_named ?_
       intro W5 hW5
       have hb5 : Below w4.heap.size w4 W5 := by rw [hW5]; exact balloc (Below.refl _ _) _
       have HK5 := Lib.hid (show W5.heap[w4.heap.size]? = some (.cells #[.int .u64 k.1, .int .u64 k.2] 74 (0, 0)) by rw [hW5]; exact heap_alloc_new _ _)
       obtain ⟨HB5, HX05, HX15⟩ := keepH hb5 HB4 HX04 HX14
       clear hW5 hb5
       refine (CH.out W5 HB5.out).mono ?_
       rintro e w6 ⟨rfl, hb6⟩
       obtain ⟨HB6, HX06, HX16⟩ := keepH hb6 HB5 HX05 HX15
       have HK6 := Lib.hid ((hb6.block _ (Array.getElem?_eq_some_iff.1 HK5.out).1).trans HK5.out)
       clear hb6)
    | (go_at_call 32
       refine (CS.out _ HB6.out).mono ?_
       rintro e w7 ⟨rfl, rfl⟩
       obtain ⟨b1, b2, b3⟩ := box_cells (Below.refl _ _) HX06.out
       obtain ⟨k1, k2, k3⟩ := box_cells (Below.refl _ _) HK6.out
       clear CS)
    | (go_at_call 82
       have hlt7 := (Array.getElem?_eq_some_iff.1 HX16.out).1
       refine (CI.out _ HB6.out).mono ?_
       rintro e w8 ⟨es', rfl, hat, hab, hu, ho⟩
       obtain ⟨d', hd', hu', _⟩ := CA.out _ HB6.out hlt7 w8 es' hat hab hu ho
       have HD := Lib.hid hd'
       have HU := Lib.hid ((Upd.of_below HB6.out (d.fp S)).trans hu')
       have HX8 := Lib.hid (upd_at hu' HNF.out HX16.out)
       obtain ⟨y1, y2, y3⟩ := box_cells (Below.refl _ _) HX8.out
       (try unfold zR at y1)
       clear hat hab hu ho hd' hu' b1 b2 b3 k1 k2 k3 hlt7))
  refine post_named ?_
  intro W9 hW9
  have hW9' : W9 = stor w8 (w.heap.size + 1) 0 (repC (repF er)) := hW9
  obtain ⟨t1, t2, t3, t4⟩ := stor_at HX8.out (repC (repF er)) rfl W9 hW9'
  obtain ⟨a9, a8, a7⟩ := box_cells (Below.refl _ _) t1
  clear hW9 hW9'
  exact bodyPost_ret (v := repV (repF er)) (by simp [results, Tryz.results28, go_sem, a9, repV, repC, repF, st0, adv0]) rfl (by rw [HRR.out]; exact sto_endX (Nat.le_succ _) HD.out HU.out t2 t3 t4)

set_option maxRecDepth 100000 in
set_option maxHeartbeats 4000000 in
theorem stoDo_6 (w : World) (h : StoreAt B w S c rs rh n wd d) (hB : ∀ b, w.heap.size ≤ b → B b) (hc : CfgOk c rs rh) (hi : WdOk c rs rh n wd) (hh : HomeOk c wd) (ht : (allW wd).length ≤ 400) (hn : n ≤ 100) (x : CallD) (hx : x.ok) (h0 : chkC x = 0) (hk : x.kind = 6) :
    Calls Tryz.prog 28 #[.pointer (some ⟨S, 0, none⟩), callV x] w (StoSays B w S c rs rh (n + 1) (d.fp S) (repV (doW c rs rh wd x).2) (doW c rs rh wd x).1) := by
  obtain ⟨kind, id, tick, val, handle, ⟨p0, p1, p2, p3, p4, p5⟩⟩ := x
  dsimp only at hk
  subst hk
  obtain ⟨i, s, R, pe, hri, hs, hR, hsk, hst, hbd, hl, CK, HST, hB1, HNF, CM, CP, CH, CS⟩ := do_facts w h hB hc hi 6 id tick val handle ⟨p0, p1, p2, p3, p4, p5⟩ hx h0
  have HB1N := Lib.hid hB1
  have hroom := hc.room
  have hkok := keyK_ok id
  obtain ⟨r, hr⟩ : ∃ r, r = doW c rs rh wd ⟨6, id, tick, val, handle, ⟨p0, p1, p2, p3, p4, p5⟩⟩ := ⟨_, rfl⟩
  rw [← hr]
  have hrr : r = ({ wd with st := wd.st.set i (oneP c rs rh R (keyK id) ⟨2, (0, 0), ⟨p0, p1, p2, p3, p4, p5⟩, adv0⟩).1 }, repF (oneP c rs rh R (keyK id) ⟨2, (0, 0), ⟨p0, p1, p2, p3, p4, p5⟩, adv0⟩).2) := by
    rw [hr]
    unfold doW
    rw [if_neg (by rw [h0]; simp)]
    simp only [show ¬ (6 : Int) = 1 by decide, show ¬ (6 : Int) = 2 by decide, show ¬ (6 : Int) = 3 by decide, show ¬ (6 : Int) = 4 by decide, show ¬ (6 : Int) = 5 by decide, if_true, if_false, oneW_at hri hR]
  have herr := (tells_one hsk.tells c rs rh s.ver ⟨keyK id, hkok⟩ ⟨2, (0, 0), ⟨p0, p1, p2, p3, p4, p5⟩, adv0⟩ (show ¬ (2 : Int) < 0 by decide) (show (2 : Int) ≠ 1 by decide) (show ¬ 3 < (2 : Int) by decide)).2
  have CI := Lib.hid (fun W (hW : Below w.heap.size w W) => set_all s.T s.M c s.ver s.es rs rh ⟨keyK id, hkok⟩ ⟨2, (0, 0), ⟨p0, p1, p2, p3, p4, p5⟩, adv0⟩ W ((hsk.at_.below hW)) (hsk.sok hc hn) rfl)
  have CA := Lib.hid (fun W (hW : Below w.heap.size w W) (h1 : w.heap.size + 1 < W.heap.size) W' es' hat hab hu ho => (h.avoidX (X := w.heap.size + 1) (Nat.le_succ _) hW).act (w' := W') (hB1 W hW h1) hc hn hs hR ⟨keyK id, hkok⟩ ⟨2, (0, 0), ⟨p0, p1, p2, p3, p4, p5⟩, adv0⟩ (show ¬ (2 : Int) < 0 by decide) (show (2 : Int) ≠ 1 by decide) (show ¬ 3 < (2 : Int) by decide) (es' := es') hat hab hu ho)
  rw [herr] at CI
  unfold polV at CI
  dsimp only at herr CI CA
  generalize (oneP c rs rh R (keyK id) ⟨2, (0, 0), ⟨p0, p1, p2, p3, p4, p5⟩, adv0⟩).2 = er at CI hrr
  generalize (oneP c rs rh R (keyK id) ⟨2, (0, 0), ⟨p0, p1, p2, p3, p4, p5⟩, adv0⟩).1 = R' at CA hrr
  have HRR := Lib.hid hrr
  generalize keyK id = k at *
  clear h hc hi hh ht hx h0 hri hs hR hsk hr hB hB1 hst hl hroom hbd hrr herr
  unfold callV
  go_enter Tryz.func28, Tryz.ntmps28
  go_wp2_with (first
    | (go_at_call 42
       refine calls_named ?_
       intro W1 hW1
       obtain ⟨HB1, HX0, HX1⟩ := boxes2 w _ _ W1 hW1
       clear hW1
       refine (CK.out W1).mono ?_
       rintro e w2 ⟨rfl, hb2⟩
       obtain ⟨HB2, HX02, HX12⟩ := keepH hb2 HB1 HX0 HX1
       clear hb2)
    | (go_at_call 80
       refine (CM.out _ HB2.out).mono ?_
       rintro e w3 ⟨rfl, rfl⟩
       obtain ⟨b1, b2, b3⟩ := box_cells (Below.refl _ _) HX02.out)
    | (go_at_call 81
       refine (CP.out _).mono ?_
       rintro e w4 ⟨rfl, hb4⟩
       obtain ⟨HB4, HX04, HX14⟩ := keepH hb4 HB2 HX02 HX12
       clear hb4 b1 b2 b3)
    | (go_at_call 30
       refine calls_named ?_
       intro W5 hW5
       have hb5 : Below w4.heap.size w4 W5 := by rw [hW5]; exact balloc (Below.refl _ _) _
       have HK5 := Lib.hid (show W5.heap[w4.heap.size]? = some (.cells #[.int .u64 k.1, .int .u64 k.2] 74 (0, 0)) by rw [hW5]; exact heap_alloc_new _ _)
       obtain ⟨HB5, HX05, HX15⟩ := keepH hb5 HB4 HX04 HX14
       clear hW5 hb5
       refine (CH.out W5 HB5.out).mono ?_
       rintro e w6 ⟨rfl, hb6⟩
       obtain ⟨HB6, HX06, HX16⟩ := keepH hb6 HB5 HX05 HX15
       have HK6 := Lib.hid ((hb6.block _ (Array.getElem?_eq_some_iff.1 HK5.out).1).trans HK5.out)
       clear hb6)
    | (go_at_call 32
       refine (CS.out _ HB6.out).mono ?_
       rintro e w7 ⟨rfl, rfl⟩
       obtain ⟨b1, b2, b3⟩ := box_cells (Below.refl _ _) HX06.out
       obtain ⟨k1, k2, k3⟩ := box_cells (Below.refl _ _) HK6.out
       clear CS)
    | (go_at_call 86
       have hlt7 := (Array.getElem?_eq_some_iff.1 HX16.out).1
       refine (CI.out _ HB6.out).mono ?_
       rintro e w8 ⟨es', rfl, hat, hab, hu, ho⟩
       obtain ⟨d', hd', hu', _⟩ := CA.out _ HB6.out hlt7 w8 es' hat hab hu ho
       have HD := Lib.hid hd'
       have HU := Lib.hid ((Upd.of_below HB6.out (d.fp S)).trans hu')
       have HX8 := Lib.hid (upd_at hu' HNF.out HX16.out)
       obtain ⟨y1, y2, y3⟩ := box_cells (Below.refl _ _) HX8.out
       (try unfold zR at y1)
       clear hat hab hu ho hd' hu' b1 b2 b3 k1 k2 k3 hlt7))
  refine post_named ?_
  intro W9 hW9
  have hW9' : W9 = stor w8 (w.heap.size + 1) 0 (repC (repF er)) := hW9
  obtain ⟨t1, t2, t3, t4⟩ := stor_at HX8.out (repC (repF er)) rfl W9 hW9'
  obtain ⟨a9, a8, a7⟩ := box_cells (Below.refl _ _) t1
  clear hW9 hW9'
  exact bodyPost_ret (v := repV (repF er)) (by simp [results, Tryz.results28, go_sem, a9, repV, repC, repF, st0, adv0]) rfl (by rw [HRR.out]; exact sto_endX (Nat.le_succ _) HD.out HU.out t2 t3 t4)

set_option maxRecDepth 100000 in
set_option maxHeartbeats 4000000 in
theorem stoDo_3 (w : World) (h : StoreAt B w S c rs rh n wd d) (hB : ∀ b, w.heap.size ≤ b → B b) (hc : CfgOk c rs rh) (hi : WdOk c rs rh n wd) (hh : HomeOk c wd) (ht : (allW wd).length ≤ 400) (hn : n ≤ 100) (x : CallD) (hx : x.ok) (h0 : chkC x = 0) (hk : x.kind = 3) :
    Calls Tryz.prog 28 #[.pointer (some ⟨S, 0, none⟩), callV x] w (StoSays B w S c rs rh (n + 1) (d.fp S) (repV (doW c rs rh wd x).2) (doW c rs rh wd x).1) := by
  obtain ⟨kind, id, tick, val, handle, ⟨p0, p1, p2, p3, p4, p5⟩⟩ := x
  dsimp only at hk
  subst hk
  obtain ⟨i, s, R, pe, hri, hs, hR, hsk, hst, hbd, hl, CK, HST, hB1, HNF, CM, CP, CH, CS⟩ := do_facts w h hB hc hi 3 id tick val handle ⟨p0, p1, p2, p3, p4, p5⟩ hx h0
  have HB1N := Lib.hid hB1
  have hroom := hc.room
  have hkok := keyK_ok id
  obtain ⟨r, hr⟩ : ∃ r, r = doW c rs rh wd ⟨3, id, tick, val, handle, ⟨p0, p1, p2, p3, p4, p5⟩⟩ := ⟨_, rfl⟩
  rw [← hr]
  have hrr : r = snapW wd := by
    rw [hr]
    unfold doW
    rw [if_neg (by rw [h0]; simp)]
    simp only [show ¬ (3 : Int) = 1 by decide, show ¬ (3 : Int) = 2 by decide, if_true, if_false]
  have CI := Lib.hid (fun W (hW : Below w.heap.size w W) (h1 : w.heap.size + 1 < W.heap.size) => stoSnap_any W (h.avoidX (X := w.heap.size + 1) (Nat.le_succ _) hW) (hB1 W hW h1) (by omega) (by omega) hh ht (by omega) (by have := hi.cuts; omega) ⟨hi.ep.1, by have := hi.ep.2; omega⟩)
  rw [← hrr] at CI
  obtain ⟨wd', ⟨e0, e1, e2, ⟨s0, s1, s2, s3, s4⟩, ⟨a0, a1, a2, a3, a4⟩⟩⟩ := r
  have HRR := Lib.hid (show ((wd', ⟨e0, e1, e2, ⟨s0, s1, s2, s3, s4⟩, ⟨a0, a1, a2, a3, a4⟩⟩) : Wd × RepD) = (wd', ⟨e0, e1, e2, ⟨s0, s1, s2, s3, s4⟩, ⟨a0, a1, a2, a3, a4⟩⟩) from rfl)
  unfold repV repC at CI
  dsimp only at CI
  generalize keyK id = k at *
  clear h hc hi hh ht hx h0 hri hs hR hsk hr hB hB1 hst hl hroom hbd hrr
  unfold callV
  go_enter Tryz.func28, Tryz.ntmps28
  go_wp2_with (first
    | (go_at_call 42
       refine calls_named ?_
       intro W1 hW1
       obtain ⟨HB1, HX0, HX1⟩ := boxes2 w _ _ W1 hW1
       clear hW1
       refine (CK.out W1).mono ?_
       rintro e w2 ⟨rfl, hb2⟩
       obtain ⟨HB2, HX02, HX12⟩ := keepH hb2 HB1 HX0 HX1
       clear hb2)
    | (go_at_call 80
       refine (CM.out _ HB2.out).mono ?_
       rintro e w3 ⟨rfl, rfl⟩
       obtain ⟨b1, b2, b3⟩ := box_cells (Below.refl _ _) HX02.out)
    | (go_at_call 81
       refine (CP.out _).mono ?_
       rintro e w4 ⟨rfl, hb4⟩
       obtain ⟨HB4, HX04, HX14⟩ := keepH hb4 HB2 HX02 HX12
       clear hb4 b1 b2 b3)
    | (go_at_call 30
       refine calls_named ?_
       intro W5 hW5
       have hb5 : Below w4.heap.size w4 W5 := by rw [hW5]; exact balloc (Below.refl _ _) _
       have HK5 := Lib.hid (show W5.heap[w4.heap.size]? = some (.cells #[.int .u64 k.1, .int .u64 k.2] 74 (0, 0)) by rw [hW5]; exact heap_alloc_new _ _)
       obtain ⟨HB5, HX05, HX15⟩ := keepH hb5 HB4 HX04 HX14
       clear hW5 hb5
       refine (CH.out W5 HB5.out).mono ?_
       rintro e w6 ⟨rfl, hb6⟩
       obtain ⟨HB6, HX06, HX16⟩ := keepH hb6 HB5 HX05 HX15
       have HK6 := Lib.hid ((hb6.block _ (Array.getElem?_eq_some_iff.1 HK5.out).1).trans HK5.out)
       clear hb6)
    | (go_at_call 32
       refine (CS.out _ HB6.out).mono ?_
       rintro e w7 ⟨rfl, rfl⟩
       obtain ⟨b1, b2, b3⟩ := box_cells (Below.refl _ _) HX06.out
       obtain ⟨k1, k2, k3⟩ := box_cells (Below.refl _ _) HK6.out
       clear CS)
    | (go_at_call 84
       have hlt7 := (Array.getElem?_eq_some_iff.1 HX16.out).1
       refine (CI.out _ HB6.out hlt7).mono ?_
       rintro e w8 ⟨fp', rfl, ⟨d', hd', rfl⟩, hu'⟩
       have HD := Lib.hid (hd'.mono (Nat.le_succ n))
       have HU := Lib.hid ((Upd.of_below HB6.out (d.fp S)).trans hu')
       have HX8 := Lib.hid (upd_at hu' HNF.out HX16.out)
       obtain ⟨y1, y2, y3⟩ := box_cells (Below.refl _ _) HX8.out
       (try unfold zR at y1)
       clear hd' hu' b1 b2 b3 k1 k2 k3 hlt7))
  refine post_named ?_
  intro W9 hW9
  have hW9' : W9 = stor w8 (w.heap.size + 1) 0 (repC ⟨e0, e1, e2, ⟨s0, s1, s2, s3, s4⟩, ⟨a0, a1, a2, a3, a4⟩⟩) := hW9
  obtain ⟨t1, t2, t3, t4⟩ := stor_at HX8.out (repC ⟨e0, e1, e2, ⟨s0, s1, s2, s3, s4⟩, ⟨a0, a1, a2, a3, a4⟩⟩) rfl W9 hW9'
  obtain ⟨a9, a8, a7⟩ := box_cells (Below.refl _ _) t1
  clear hW9 hW9'
  exact bodyPost_ret (v := repV ⟨e0, e1, e2, ⟨s0, s1, s2, s3, s4⟩, ⟨a0, a1, a2, a3, a4⟩⟩) (by simp [results, Tryz.results28, go_sem, a9, repV, repC, repF, st0, adv0]) rfl (by exact sto_endX (Nat.le_succ _) HD.out HU.out t2 t3 t4)

set_option maxRecDepth 100000 in
set_option maxHeartbeats 4000000 in
theorem stoDo_5 (w : World) (h : StoreAt B w S c rs rh n wd d) (hB : ∀ b, w.heap.size ≤ b → B b) (hc : CfgOk c rs rh) (hi : WdOk c rs rh n wd) (hh : HomeOk c wd) (ht : (allW wd).length ≤ 400) (hn : n ≤ 100) (x : CallD) (hx : x.ok) (h0 : chkC x = 0) (hk : x.kind = 5) :
    Calls Tryz.prog 28 #[.pointer (some ⟨S, 0, none⟩), callV x] w (StoSays B w S c rs rh (n + 1) (d.fp S) (repV (doW c rs rh wd x).2) (doW c rs rh wd x).1) := by
  obtain ⟨kind, id, tick, val, handle, ⟨p0, p1, p2, p3, p4, p5⟩⟩ := x
  dsimp only at hk
  subst hk
  obtain ⟨i, s, R, pe, hri, hs, hR, hsk, hst, hbd, hl, CK, HST, hB1, HNF, CM, CP, CH, CS⟩ := do_facts w h hB hc hi 5 id tick val handle ⟨p0, p1, p2, p3, p4, p5⟩ hx h0
  have HB1N := Lib.hid hB1
  have hroom := hc.room
  have hkok := keyK_ok id
  obtain ⟨r, hr⟩ : ∃ r, r = doW c rs rh wd ⟨5, id, tick, val, handle, ⟨p0, p1, p2, p3, p4, p5⟩⟩ := ⟨_, rfl⟩
  rw [← hr]
  have hrr : r = (wd, lookW wd ⟨5, id, tick, val, handle, ⟨p0, p1, p2, p3, p4, p5⟩⟩) := by
    rw [hr]
    unfold doW
    rw [if_neg (by rw [h0]; simp)]
    simp only [show ¬ (5 : Int) = 1 by decide, show ¬ (5 : Int) = 2 by decide, show ¬ (5 : Int) = 3 by decide, show ¬ (5 : Int) = 4 by decide, if_true, if_false]
  have CI := Lib.hid (fun W (hW : Below w.heap.size w W) => stoLook_any W (h.below hW) (by omega) (by have := hi.cuts; omega) (fun q hq => (hi.cep q hq).1) (fun q hq p hp => ((hi.cit q hq).2 p hp).smp) hroom.r2 handle (keyK id) tick val hx.2.2.1 hx.2.2.2.1)
  obtain ⟨rp, hrp⟩ : ∃ rp, rp = lookK wd handle (keyK id) tick val := ⟨_, rfl⟩
  rw [← hrp] at CI
  have hrr2 : r = (wd, rp) := by rw [hrr, hrp]; rfl
  obtain ⟨e0, e1, e2, ⟨s0, s1, s2, s3, s4⟩, ⟨a0, a1, a2, a3, a4⟩⟩ := rp
  have HRR := Lib.hid hrr2
  have HSTN := Lib.hid (fun W (hW : Below w.heap.size w W) => (h.avoidX (X := w.heap.size + 1) (Nat.le_succ _) hW).mono (Nat.le_succ n))
  unfold repV repC at CI
  dsimp only at CI
  generalize keyK id = k at *
  clear h hc hi hh ht hx h0 hri hs hR hsk hr hB hB1 hst hl hroom hbd hrr hrr2 hrp
  unfold callV
  go_enter Tryz.func28, Tryz.ntmps28
  go_wp2_with (first
    | (go_at_call 42
       refine calls_named ?_
       intro W1 hW1
       obtain ⟨HB1, HX0, HX1⟩ := boxes2 w _ _ W1 hW1
       clear hW1
       refine (CK.out W1).mono ?_
       rintro e w2 ⟨rfl, hb2⟩
       obtain ⟨HB2, HX02, HX12⟩ := keepH hb2 HB1 HX0 HX1
       clear hb2)
    | (go_at_call 80
       refine (CM.out _ HB2.out).mono ?_
       rintro e w3 ⟨rfl, rfl⟩
       obtain ⟨b1, b2, b3⟩ := box_cells (Below.refl _ _) HX02.out)
    | (go_at_call 81
       refine (CP.out _).mono ?_
       rintro e w4 ⟨rfl, hb4⟩
       obtain ⟨HB4, HX04, HX14⟩ := keepH hb4 HB2 HX02 HX12
       clear hb4 b1 b2 b3)
    | (go_at_call 30
       refine calls_named ?_
       intro W5 hW5
       have hb5 : Below w4.heap.size w4 W5 := by rw [hW5]; exact balloc (Below.refl _ _) _
       have HK5 := Lib.hid (show W5.heap[w4.heap.size]? = some (.cells #[.int .u64 k.1, .int .u64 k.2] 74 (0, 0)) by rw [hW5]; exact heap_alloc_new _ _)
       obtain ⟨HB5, HX05, HX15⟩ := keepH hb5 HB4 HX04 HX14
       clear hW5 hb5
       refine (CH.out W5 HB5.out).mono ?_
       rintro e w6 ⟨rfl, hb6⟩
       obtain ⟨HB6, HX06, HX16⟩ := keepH hb6 HB5 HX05 HX15
       have HK6 := Lib.hid ((hb6.block _ (Array.getElem?_eq_some_iff.1 HK5.out).1).trans HK5.out)
       clear hb6)
    | (go_at_call 32
       refine (CS.out _ HB6.out).mono ?_
       rintro e w7 ⟨rfl, rfl⟩
       obtain ⟨b1, b2, b3⟩ := box_cells (Below.refl _ _) HX06.out
       obtain ⟨k1, k2, k3⟩ := box_cells (Below.refl _ _) HK6.out
       clear CS)
    | (go_at_call 85
       refine (CI.out _ HB6.out).mono ?_
       rintro e w8 ⟨rfl, hb8⟩
       have HD := Lib.hid (HSTN.out _ (bthen HB6.out hb8))
       have HU := Lib.hid (Upd.of_below (bthen HB6.out hb8) (d.fp S))
       have HX8 := Lib.hid ((hb8.block _ (Array.getElem?_eq_some_iff.1 HX16.out).1).trans HX16.out)
       obtain ⟨y1, y2, y3⟩ := box_cells (Below.refl _ _) HX8.out
       (try unfold zR at y1)
       clear hb8 b1 b2 b3 k1 k2 k3))
  refine post_named ?_
  intro W9 hW9
  have hW9' : W9 = stor w8 (w.heap.size + 1) 0 (repC ⟨e0, e1, e2, ⟨s0, s1, s2, s3, s4⟩, ⟨a0, a1, a2, a3, a4⟩⟩) := hW9
  obtain ⟨t1, t2, t3, t4⟩ := stor_at HX8.out (repC ⟨e0, e1, e2, ⟨s0, s1, s2, s3, s4⟩, ⟨a0, a1, a2, a3, a4⟩⟩) rfl W9 hW9'
  obtain ⟨a9, a8, a7⟩ := box_cells (Below.refl _ _) t1
  clear hW9 hW9'
  exact bodyPost_ret (v := repV ⟨e0, e1, e2, ⟨s0, s1, s2, s3, s4⟩, ⟨a0, a1, a2, a3, a4⟩⟩) (by simp [results, Tryz.results28, go_sem, a9, repV, repC, repF, st0, adv0]) rfl (by rw [HRR.out]; exact sto_endX (Nat.le_succ _) HD.out HU.out t2 t3 t4)

set_option maxRecDepth 100000 in
set_option maxHeartbeats 4000000 in
theorem stoDo_7 (w : World) (h : StoreAt B w S c rs rh n wd d) (hB : ∀ b, w.heap.size ≤ b → B b) (hc : CfgOk c rs rh) (hi : WdOk c rs rh n wd) (hh : HomeOk c wd) (ht : (allW wd).length ≤ 400) (hn : n ≤ 100) (x : CallD) (hx : x.ok) (h0 : chkC x = 0) (hk : x.kind = 7) :
    Calls Tryz.prog 28 #[.pointer (some ⟨S, 0, none⟩), callV x] w (StoSays B w S c rs rh (n + 1) (d.fp S) (repV (doW c rs rh wd x).2) (doW c rs rh wd x).1) := by
  obtain ⟨kind, id, tick, val, handle, ⟨p0, p1, p2, p3, p4, p5⟩⟩ := x
  dsimp only at hk
  subst hk
  obtain ⟨i, s, R, pe, hri, hs, hR, hsk, hst, hbd, hl, CK, HST, hB1, HNF, CM, CP, CH, CS⟩ := do_facts w h hB hc hi 7 id tick val handle ⟨p0, p1, p2, p3, p4, p5⟩ hx h0
  have HB1N := Lib.hid hB1
  have hroom := hc.room
  have hkok := keyK_ok id
  obtain ⟨r, hr⟩ : ∃ r, r = doW c rs rh wd ⟨7, id, tick, val, handle, ⟨p0, p1, p2, p3, p4, p5⟩⟩ := ⟨_, rfl⟩
  rw [← hr]
  have hrr : r = (wd, readW wd id) := by
    rw [hr]
    unfold doW
    rw [if_neg (by rw [h0]; simp)]
    simp only [show ¬ (7 : Int) = 1 by decide, show ¬ (7 : Int) = 2 by decide, show ¬ (7 : Int) = 3 by decide, show ¬ (7 : Int) = 4 by decide, show ¬ (7 : Int) = 5 by decide, show ¬ (7 : Int) = 6 by decide, if_true, if_false]
  have CI := Lib.hid (fun W (hW : Below w.heap.size w W) => stoLast_any W (h.below hW) hl hst hh hroom.h2 (keyK id) hkok)
  obtain ⟨rp, hrp⟩ : ∃ rp, rp = readK wd (keyK id) := ⟨_, rfl⟩
  rw [← hrp] at CI
  have hrr2 : r = (wd, rp) := by rw [hrr, hrp]; rfl
  obtain ⟨e0, e1, e2, ⟨s0, s1, s2, s3, s4⟩, ⟨a0, a1, a2, a3, a4⟩⟩ := rp
  have HRR := Lib.hid hrr2
  have HSTN := Lib.hid (fun W (hW : Below w.heap.size w W) => (h.avoidX (X := w.heap.size + 1) (Nat.le_succ _) hW).mono (Nat.le_succ n))
  unfold repV repC at CI
  dsimp only at CI
  generalize keyK id = k at *
  clear h hc hi hh ht hx h0 hri hs hR hsk hr hB hB1 hst hl hroom hbd hrr hrr2 hrp
  unfold callV
  go_enter Tryz.func28, Tryz.ntmps28
  go_wp2_with (first
    | (go_at_call 42
       refine calls_named ?_
       intro W1 hW1
       obtain ⟨HB1, HX0, HX1⟩ := boxes2 w _ _ W1 hW1
       clear hW1
       refine (CK.out W1).mono ?_
       rintro e w2 ⟨rfl, hb2⟩
       obtain ⟨HB2, HX02, HX12⟩ := keepH hb2 HB1 HX0 HX1
       clear hb2)
    | (go_at_call 80
       refine (CM.out _ HB2.out).mono ?_
       rintro e w3 ⟨rfl, rfl⟩
       obtain ⟨b1, b2, b3⟩ := box_cells (Below.refl _ _) HX02.out)
    | (go_at_call 81
       refine (CP.out _).mono ?_
       rintro e w4 ⟨rfl, hb4⟩
       obtain ⟨HB4, HX04, HX14⟩ := keepH hb4 HB2 HX02 HX12
       clear hb4 b1 b2 b3)
    | (go_at_call 30
       refine calls_named ?_
       intro W5 hW5
       have hb5 : Below w4.heap.size w4 W5 := by rw [hW5]; exact balloc (Below.refl _ _) _
       have HK5 := Lib.hid (show W5.heap[w4.heap.size]? = some (.cells #[.int .u64 k.1, .int .u64 k.2] 74 (0, 0)) by rw [hW5]; exact heap_alloc_new _ _)
       obtain ⟨HB5, HX05, HX15⟩ := keepH hb5 HB4 HX04 HX14
       clear hW5 hb5
       refine (CH.out W5 HB5.out).mono ?_
       rintro e w6 ⟨rfl, hb6⟩
       obtain ⟨HB6, HX06, HX16⟩ := keepH hb6 HB5 HX05 HX15
       have HK6 := Lib.hid ((hb6.block _ (Array.getElem?_eq_some_iff.1 HK5.out).1).trans HK5.out)
       clear hb6)
    | (go_at_call 32
       refine (CS.out _ HB6.out).mono ?_
       rintro e w7 ⟨rfl, rfl⟩
       obtain ⟨b1, b2, b3⟩ := box_cells (Below.refl _ _) HX06.out
       obtain ⟨k1, k2, k3⟩ := box_cells (Below.refl _ _) HK6.out
       clear CS)
    | (go_at_call 87
       refine (CI.out _ HB6.out).mono ?_
       rintro e w8 ⟨rfl, hb8⟩
       have HD := Lib.hid (HSTN.out _ (bthen HB6.out hb8))
       have HU := Lib.hid (Upd.of_below (bthen HB6.out hb8) (d.fp S))
       have HX8 := Lib.hid ((hb8.block _ (Array.getElem?_eq_some_iff.1 HX16.out).1).trans HX16.out)
       obtain ⟨y1, y2, y3⟩ := box_cells (Below.refl _ _) HX8.out
       (try unfold zR at y1)
       clear hb8 b1 b2 b3 k1 k2 k3))
  refine post_named ?_
  intro W9 hW9
  have hW9' : W9 = stor w8 (w.heap.size + 1) 0 (repC ⟨e0, e1, e2, ⟨s0, s1, s2, s3, s4⟩, ⟨a0, a1, a2, a3, a4⟩⟩) := hW9
  obtain ⟨t1, t2, t3, t4⟩ := stor_at HX8.out (repC ⟨e0, e1, e2, ⟨s0, s1, s2, s3, s4⟩, ⟨a0, a1, a2, a3, a4⟩⟩) rfl W9 hW9'
  obtain ⟨a9, a8, a7⟩ := box_cells (Below.refl _ _) t1
  clear hW9 hW9'
  exact bodyPost_ret (v := repV ⟨e0, e1, e2, ⟨s0, s1, s2, s3, s4⟩, ⟨a0, a1, a2, a3, a4⟩⟩) (by simp [results, Tryz.results28, go_sem, a9, repV, repC, repF, st0, adv0]) rfl (by rw [HRR.out]; exact sto_endX (Nat.le_succ _) HD.out HU.out t2 t3 t4)

set_option maxRecDepth 100000 in
set_option maxHeartbeats 4000000 in
theorem stoDo_4b (w : World) (h : StoreAt B w S c rs rh n wd d) (hB : ∀ b, w.heap.size ≤ b → B b) (hc : CfgOk c rs rh) (hi : WdOk c rs rh n wd) (hh : HomeOk c wd) (ht : (allW wd).length ≤ 400) (hn : n ≤ 100) (x : CallD) (hx : x.ok) (h0 : chkC x = 0) (hk : x.kind = 4) (hf : findT (tabW wd) x.handle ≠ 0) :
    Calls Tryz.prog 28 #[.pointer (some ⟨S, 0, none⟩), callV x] w (StoSays B w S c rs rh (n + 1) (d.fp S) (repV (doW c rs rh wd x).2) (doW c rs rh wd x).1) := by
  obtain ⟨kind, id, tick, val, handle, ⟨p0, p1, p2, p3, p4, p5⟩⟩ := x
  dsimp only at hk hf
  subst hk
  obtain ⟨i, s, R, pe, hri, hs, hR, hsk, hst, hbd, hl, CK, HST, hB1, HNF, CM, CP, CH, CS⟩ := do_facts w h hB hc hi 4 id tick val handle ⟨p0, p1, p2, p3, p4, p5⟩ hx h0
  have HB1N := Lib.hid hB1
  have hroom := hc.room
  have hkok := keyK_ok id
  obtain ⟨r, hr⟩ : ∃ r, r = doW c rs rh wd ⟨4, id, tick, val, handle, ⟨p0, p1, p2, p3, p4, p5⟩⟩ := ⟨_, rfl⟩
  rw [← hr]
  have hrr : r = freeW wd handle := by
    rw [hr]
    unfold doW
    rw [if_neg (by rw [h0]; simp)]
    simp only [show ¬ (4 : Int) = 1 by decide, show ¬ (4 : Int) = 2 by decide, show ¬ (4 : Int) = 3 by decide, if_true, if_false]
  have CI := Lib.hid (fun W (hW : Below w.heap.size w W) => stoFree_bad W (h.below hW) (by omega) (by have := hi.cuts; omega) (fun q hq => (hi.cep q hq).1) handle hf)
  have HSTN := Lib.hid (fun W (hW : Below w.heap.size w W) => (h.avoidX (X := w.heap.size + 1) (Nat.le_succ _) hW).mono (Nat.le_succ n))
  have hrr2 : r = (wd, repF (findT (tabW wd) handle)) := by rw [hrr]; unfold freeW; rw [if_pos hf]
  generalize findT (tabW wd) handle = er at *
  have HRR := Lib.hid hrr2
  generalize keyK id = k at *
  clear h hc hi hh ht hx h0 hri hs hR hsk hr hB hB1 hst hl hroom hbd hrr hrr2 hf
  unfold callV
  go_enter Tryz.func28, Tryz.ntmps28
  go_wp2_with (first
    | (go_at_call 42
       refine calls_named ?_
       intro W1 hW1
       obtain ⟨HB1, HX0, HX1⟩ := boxes2 w _ _ W1 hW1
       clear hW1
       refine (CK.out W1).mono ?_
       rintro e w2 ⟨rfl, hb2⟩
       obtain ⟨HB2, HX02, HX12⟩ := keepH hb2 HB1 HX0 HX1
       clear hb2)
    | (go_at_call 80
       refine (CM.out _ HB2.out).mono ?_
       rintro e w3 ⟨rfl, rfl⟩
       obtain ⟨b1, b2, b3⟩ := box_cells (Below.refl _ _) HX02.out)
    | (go_at_call 81
       refine (CP.out _).mono ?_
       rintro e w4 ⟨rfl, hb4⟩
       obtain ⟨HB4, HX04, HX14⟩ := keepH hb4 HB2 HX02 HX12
       clear hb4 b1 b2 b3)
    | (go_at_call 30
       refine calls_named ?_
       intro W5 hW5
       have hb5 : Below w4.heap.size w4 W5 := by rw [hW5]; exact balloc (Below.refl _ _) _
       have HK5 := Lib.hid (show W5.heap[w4.heap.size]? = some (.cells #[.int .u64 k.1, .int .u64 k.2] 74 (0, 0)) by rw [hW5]; exact heap_alloc_new _ _)
       obtain ⟨HB5, HX05, HX15⟩ := keepH hb5 HB4 HX04 HX14
       clear hW5 hb5
       refine (CH.out W5 HB5.out).mono ?_
       rintro e w6 ⟨rfl, hb6⟩
       obtain ⟨HB6, HX06, HX16⟩ := keepH hb6 HB5 HX05 HX15
       have HK6 := Lib.hid ((hb6.block _ (Array.getElem?_eq_some_iff.1 HK5.out).1).trans HK5.out)
       clear hb6)
    | (go_at_call 32
       refine (CS.out _ HB6.out).mono ?_
       rintro e w7 ⟨rfl, rfl⟩
       obtain ⟨b1, b2, b3⟩ := box_cells (Below.refl _ _) HX06.out
       obtain ⟨k1, k2, k3⟩ := box_cells (Below.refl _ _) HK6.out
       clear CS)
    | (go_at_call 36
       refine (CI.out _ HB6.out).mono ?_
       rintro e w8 ⟨rfl, rfl⟩
       have HD := Lib.hid (HSTN.out _ HB6.out)
       have HU := Lib.hid (Upd.of_below HB6.out (d.fp S))
       have HX8 := Lib.hid HX16.out
       obtain ⟨y1, y2, y3⟩ := box_cells (Below.refl _ _) HX8.out
       (try unfold zR at y1)
       clear b1 b2 b3 k1 k2 k3))
  refine post_named ?_
  intro W9 hW9
  have hW9' : W9 = stor w8 (w.heap.size + 1) 0 (repC (repF er)) := hW9
  obtain ⟨t1, t2, t3, t4⟩ := stor_at HX8.out (repC (repF er)) rfl W9 hW9'
  obtain ⟨a9, a8, a7⟩ := box_cells (Below.refl _ _) t1
  clear hW9 hW9'
  exact bodyPost_ret (v := repV (repF er)) (by simp [results, Tryz.results28, go_sem, a9, repV, repC, repF, st0, adv0]) rfl (by rw [HRR.out]; exact sto_endX (Nat.le_succ _) HD.out HU.out t2 t3 t4)

set_option maxRecDepth 100000 in
set_option maxHeartbeats 4000000 in
theorem stoDo_4 (w : World) (h : StoreAt B w S c rs rh n wd d) (hB : ∀ b, w.heap.size ≤ b → B b) (hc : CfgOk c rs rh) (hi : WdOk c rs rh n wd) (hh : HomeOk c wd) (ht : (allW wd).length ≤ 400) (hn : n ≤ 100) (x : CallD) (hx : x.ok) (h0 : chkC x = 0) (hk : x.kind = 4) (hf : findT (tabW wd) x.handle = 0) :
    Calls Tryz.prog 28 #[.pointer (some ⟨S, 0, none⟩), callV x] w (StoSays B w S c rs rh (n + 1) (d.fp S) (repV (doW c rs rh wd x).2) (doW c rs rh wd x).1) := by
  obtain ⟨kind, id, tick, val, handle, ⟨p0, p1, p2, p3, p4, p5⟩⟩ := x
  dsimp only at hk hf
  subst hk
  obtain ⟨i, s, R, pe, hri, hs, hR, hsk, hst, hbd, hl, CK, HST, hB1, HNF, CM, CP, CH, CS⟩ := do_facts w h hB hc hi 4 id tick val handle ⟨p0, p1, p2, p3, p4, p5⟩ hx h0
  have HB1N := Lib.hid hB1
  have hroom := hc.room
  have hkok := keyK_ok id
  obtain ⟨r, hr⟩ : ∃ r, r = doW c rs rh wd ⟨4, id, tick, val, handle, ⟨p0, p1, p2, p3, p4, p5⟩⟩ := ⟨_, rfl⟩
  rw [← hr]
  have hrr : r = freeW wd handle := by
    rw [hr]
    unfold doW
    rw [if_neg (by rw [h0]; simp)]
    simp only [show ¬ (4 : Int) = 1 by decide, show ¬ (4 : Int) = 2 by decide, show ¬ (4 : Int) = 3 by decide, if_true, if_false]
  obtain ⟨j, hj, rfl⟩ : ∃ j : Nat, j < wd.cuts.length ∧ handle = ((j + 1 : Nat) : Int) := by
    have htl : (tabW wd).length = wd.cuts.length := by simp [tabW]
    have h1 : ¬ (handle < 1 ∨ ((tabW wd).length : Nat) < handle) := fun h9 => by rw [findT_out h9] at hf; cases hf
    exact ⟨handle.toNat - 1, by omega, by omega⟩
  have hcl : wd.cuts.length ≤ 900000 := by have := hi.cuts; omega
  have CI := Lib.hid (fun W (hW : Below w.heap.size w W) => stoFree_ok W (h.avoidX (X := w.heap.size + 1) (Nat.le_succ _) hW) (by omega) hcl (fun q hq => (hi.cep q hq).1) j hj hf)
  have CF := Lib.hid (fun W (hW : Below w.heap.size w W) o ho => ((h.avoidX (X := w.heap.size + 1) (Nat.le_succ _) hW).mono (Nat.le_succ n)).free (o := o) hcl (fun q hq => (hi.cep q hq).1) j hj hf ho)
  have hrr2 : r = ({ wd with cuts := wd.cuts.set j ⟨0, [], true⟩ }, repF 0) := by
    rw [hrr]
    unfold freeW
    rw [if_neg (by rw [hf]; simp), show ((j + 1 : Nat) : Int).toNat - 1 = j by omega]
  generalize ((j + 1 : Nat) : Int) = handle at *
  have HRR := Lib.hid hrr2
  generalize keyK id = k at *
  clear h hc hi hh ht hx h0 hri hs hR hsk hr hB hB1 hst hl hroom hbd hrr hrr2 hf hj hcl
  unfold callV
  go_enter Tryz.func28, Tryz.ntmps28
  go_wp2_with (first
    | (go_at_call 42
       refine calls_named ?_
       intro W1 hW1
       obtain ⟨HB1, HX0, HX1⟩ := boxes2 w _ _ W1 hW1
       clear hW1
       refine (CK.out W1).mono ?_
       rintro e w2 ⟨rfl, hb2⟩
       obtain ⟨HB2, HX02, HX12⟩ := keepH hb2 HB1 HX0 HX1
       clear hb2)
    | (go_at_call 80
       refine (CM.out _ HB2.out).mono ?_
       rintro e w3 ⟨rfl, rfl⟩
       obtain ⟨b1, b2, b3⟩ := box_cells (Below.refl _ _) HX02.out)
    | (go_at_call 81
       refine (CP.out _).mono ?_
       rintro e w4 ⟨rfl, hb4⟩
       obtain ⟨HB4, HX04, HX14⟩ := keepH hb4 HB2 HX02 HX12
       clear hb4 b1 b2 b3)
    | (go_at_call 30
       refine calls_named ?_
       intro W5 hW5
       have hb5 : Below w4.heap.size w4 W5 := by rw [hW5]; exact balloc (Below.refl _ _) _
       have HK5 := Lib.hid (show W5.heap[w4.heap.size]? = some (.cells #[.int .u64 k.1, .int .u64 k.2] 74 (0, 0)) by rw [hW5]; exact heap_alloc_new _ _)
       obtain ⟨HB5, HX05, HX15⟩ := keepH hb5 HB4 HX04 HX14
       clear hW5 hb5
       refine (CH.out W5 HB5.out).mono ?_
       rintro e w6 ⟨rfl, hb6⟩
       obtain ⟨HB6, HX06, HX16⟩ := keepH hb6 HB5 HX05 HX15
       have HK6 := Lib.hid ((hb6.block _ (Array.getElem?_eq_some_iff.1 HK5.out).1).trans HK5.out)
       clear hb6)
    | (go_at_call 32
       refine (CS.out _ HB6.out).mono ?_
       rintro e w7 ⟨rfl, rfl⟩
       obtain ⟨b1, b2, b3⟩ := box_cells (Below.refl _ _) HX06.out
       obtain ⟨k1, k2, k3⟩ := box_cells (Below.refl _ _) HK6.out
       clear CS)
    | (go_at_call 36
       refine (CI.out _ HB6.out).mono ?_
       rintro e w8 ⟨rfl, o, hw8, ho⟩
       rw [hw8] at ho
       have hfr := CF.out _ HB6.out o ho
       rw [← hw8] at hfr
       have HD := Lib.hid hfr.1
       have HU := Lib.hid ((Upd.of_below HB6.out (d.fp S)).trans hfr.2)
       have HX8 := Lib.hid (upd_at hfr.2 HNF.out HX16.out)
       obtain ⟨y1, y2, y3⟩ := box_cells (Below.refl _ _) HX8.out
       (try unfold zR at y1)
       clear hfr ho hw8 b1 b2 b3 k1 k2 k3))
  refine post_named ?_
  intro W9 hW9
  have hW9' : W9 = stor w8 (w.heap.size + 1) 0 (repC (repF 0)) := hW9
  obtain ⟨t1, t2, t3, t4⟩ := stor_at HX8.out (repC (repF 0)) rfl W9 hW9'
  obtain ⟨a9, a8, a7⟩ := box_cells (Below.refl _ _) t1
  clear hW9 hW9'
  exact bodyPost_ret (v := repV (repF 0)) (by simp [results, Tryz.results28, go_sem, a9, repV, repC, repF, st0, adv0]) rfl (by rw [HRR.out]; exact sto_endX (Nat.le_succ _) HD.out HU.out t2 t3 t4)

set_option maxRecDepth 100000 in
set_option maxHeartbeats 4000000 in
theorem stoDo_8b (w : World) (h : StoreAt B w S c rs rh n wd d) (hB : ∀ b, w.heap.size ≤ b → B b) (hc : CfgOk c rs rh) (hi : WdOk c rs rh n wd) (hh : HomeOk c wd) (ht : (allW wd).length ≤ 400) (hn : n ≤ 100) (x : CallD) (hx : x.ok) (h0 : chkC x = 0) (hk : x.kind = 8) (hf : wd.over = true) :
    Calls Tryz.prog 28 #[.pointer (some ⟨S, 0, none⟩), callV x] w (StoSays B w S c rs rh (n + 1) (d.fp S) (repV (doW c rs rh wd x).2) (doW c rs rh wd x).1) := by
  obtain ⟨kind, id, tick, val, handle, ⟨p0, p1, p2, p3, p4, p5⟩⟩ := x
  dsimp only at hk
  subst hk
  obtain ⟨i, s, R, pe, hri, hs, hR, hsk, hst, hbd, hl, CK, HST, hB1, HNF, CM, CP, CH, CS⟩ := do_facts w h hB hc hi 8 id tick val handle ⟨p0, p1, p2, p3, p4, p5⟩ hx h0
  have HB1N := Lib.hid hB1
  have hroom := hc.room
  have hkok := keyK_ok id
  obtain ⟨r, hr⟩ : ∃ r, r = doW c rs rh wd ⟨8, id, tick, val, handle, ⟨p0, p1, p2, p3, p4, p5⟩⟩ := ⟨_, rfl⟩
  rw [← hr]
  have hrr : r = (wd, repF 9) := by
    rw [hr]
    unfold doW
    rw [if_neg (by rw [h0]; simp)]
    simp only [show ¬ (8 : Int) = 1 by decide, show ¬ (8 : Int) = 2 by decide, show ¬ (8 : Int) = 3 by decide, show ¬ (8 : Int) = 4 by decide, show ¬ (8 : Int) = 5 by decide, show ¬ (8 : Int) = 6 by decide, show ¬ (8 : Int) = 7 by decide, if_true, if_false, hf]
  have CI := Lib.hid (fun W (hW : Below w.heap.size w W) => stoShut_over W (h.below hW) (by omega) hf)
  have HSTN := Lib.hid (fun W (hW : Below w.heap.size w W) => (h.avoidX (X := w.heap.size + 1) (Nat.le_succ _) hW).mono (Nat.le_succ n))
  have HRR := Lib.hid hrr
  generalize keyK id = k at *
  clear h hc hi hh ht hx h0 hri hs hR hsk hr hB hB1 hst hl hroom hbd hrr hf
  unfold callV
  go_enter Tryz.func28, Tryz.ntmps28
  go_wp2_with (first
    | (go_at_call 42
       refine calls_named ?_
       intro W1 hW1
       obtain ⟨HB1, HX0, HX1⟩ := boxes2 w _ _ W1 hW1
       clear hW1
       refine (CK.out W1).mono ?_
       rintro e w2 ⟨rfl, hb2⟩
       obtain ⟨HB2, HX02, HX12⟩ := keepH hb2 HB1 HX0 HX1
       clear hb2)
    | (go_at_call 80
       refine (CM.out _ HB2.out).mono ?_
       rintro e w3 ⟨rfl, rfl⟩
       obtain ⟨b1, b2, b3⟩ := box_cells (Below.refl _ _) HX02.out)
    | (go_at_call 81
       refine (CP.out _).mono ?_
       rintro e w4 ⟨rfl, hb4⟩
       obtain ⟨HB4, HX04, HX14⟩ := keepH hb4 HB2 HX02 HX12
       clear hb4 b1 b2 b3)
    | (go_at_call 30
       refine calls_named ?_
       intro W5 hW5
       have hb5 : Below w4.heap.size w4 W5 := by rw [hW5]; exact balloc (Below.refl _ _) _
       have HK5 := Lib.hid (show W5.heap[w4.heap.size]? = some (.cells #[.int .u64 k.1, .int .u64 k.2] 74 (0, 0)) by rw [hW5]; exact heap_alloc_new _ _)
       obtain ⟨HB5, HX05, HX15⟩ := keepH hb5 HB4 HX04 HX14
       clear hW5 hb5
       refine (CH.out W5 HB5.out).mono ?_
       rintro e w6 ⟨rfl, hb6⟩
       obtain ⟨HB6, HX06, HX16⟩ := keepH hb6 HB5 HX05 HX15
       have HK6 := Lib.hid ((hb6.block _ (Array.getElem?_eq_some_iff.1 HK5.out).1).trans HK5.out)
       clear hb6)
    | (go_at_call 32
       refine (CS.out _ HB6.out).mono ?_
       rintro e w7 ⟨rfl, rfl⟩
       obtain ⟨b1, b2, b3⟩ := box_cells (Below.refl _ _) HX06.out
       obtain ⟨k1, k2, k3⟩ := box_cells (Below.refl _ _) HK6.out
       clear CS)
    | (go_at_call 37
       refine (CI.out _ HB6.out).mono ?_
       rintro e w8 ⟨rfl, rfl⟩
       have HD := Lib.hid (HSTN.out _ HB6.out)
       have HU := Lib.hid (Upd.of_below HB6.out (d.fp S))
       have HX8 := Lib.hid HX16.out
       obtain ⟨y1, y2, y3⟩ := box_cells (Below.refl _ _) HX8.out
       (try unfold zR at y1)
       clear b1 b2 b3 k1 k2 k3))
  refine post_named ?_
  intro W9 hW9
  have hW9' : W9 = stor w8 (w.heap.size + 1) 0 (repC (repF 9)) := hW9
  obtain ⟨t1, t2, t3, t4⟩ := stor_at HX8.out (repC (repF 9)) rfl W9 hW9'
  obtain ⟨a9, a8, a7⟩ := box_cells (Below.refl _ _) t1
  clear hW9 hW9'
  exact bodyPost_ret (v := repV (repF 9)) (by simp [results, Tryz.results28, go_sem, a9, repV, repC, repF, st0, adv0]) rfl (by rw [HRR.out]; exact sto_endX (Nat.le_succ _) HD.out HU.out t2 t3 t4)

set_option maxRecDepth 100000 in
set_option maxHeartbeats 4000000 in
theorem stoDo_8 (w : World) (h : StoreAt B w S c rs rh n wd d) (hB : ∀ b, w.heap.size ≤ b → B b) (hc : CfgOk c rs rh) (hi : WdOk c rs rh n wd) (hh : HomeOk c wd) (ht : (allW wd).length ≤ 400) (hn : n ≤ 100) (x : CallD) (hx : x.ok) (h0 : chkC x = 0) (hk : x.kind = 8) (hf : wd.over = false) :
    Calls Tryz.prog 28 #[.pointer (some ⟨S, 0, none⟩), callV x] w (StoSays B w S c rs rh (n + 1) (d.fp S) (repV (doW c rs rh wd x).2) (doW c rs rh wd x).1) := by
  obtain ⟨kind, id, tick, val, handle, ⟨p0, p1, p2, p3, p4, p5⟩⟩ := x
  dsimp only at hk
  subst hk
  obtain ⟨i, s, R, pe, hri, hs, hR, hsk, hst, hbd, hl, CK, HST, hB1, HNF, CM, CP, CH, CS⟩ := do_facts w h hB hc hi 8 id tick val handle ⟨p0, p1, p2, p3, p4, p5⟩ hx h0
  have HB1N := Lib.hid hB1
  have hroom := hc.room
  have hkok := keyK_ok id
  obtain ⟨r, hr⟩ : ∃ r, r = doW c rs rh wd ⟨8, id, tick, val, handle, ⟨p0, p1, p2, p3, p4, p5⟩⟩ := ⟨_, rfl⟩
  rw [← hr]
  have hrr : r = ({ wd with over := true }, repF 0) := by
    rw [hr]
    unfold doW
    rw [if_neg (by rw [h0]; simp)]
    simp only [show ¬ (8 : Int) = 1 by decide, show ¬ (8 : Int) = 2 by decide, show ¬ (8 : Int) = 3 by decide, show ¬ (8 : Int) = 4 by decide, show ¬ (8 : Int) = 5 by decide, show ¬ (8 : Int) = 6 by decide, show ¬ (8 : Int) = 7 by decide, if_true, if_false, hf, Bool.false_eq_true]
  have CI := Lib.hid (fun W (hW : Below w.heap.size w W) => stoShut_ok W ((h.avoidX (X := w.heap.size + 1) (Nat.le_succ _) hW).mono (Nat.le_succ n)) (by omega) hf)
  have HRR := Lib.hid hrr
  generalize keyK id = k at *
  clear h hc hi hh ht hx h0 hri hs hR hsk hr hB hB1 hst hl hroom hbd hrr hf
  unfold callV
  go_enter Tryz.func28, Tryz.ntmps28
  go_wp2_with (first
    | (go_at_call 42
       refine calls_named ?_
       intro W1 hW1
       obtain ⟨HB1, HX0, HX1⟩ := boxes2 w _ _ W1 hW1
       clear hW1
       refine (CK.out W1).mono ?_
       rintro e w2 ⟨rfl, hb2⟩
       obtain ⟨HB2, HX02, HX12⟩ := keepH hb2 HB1 HX0 HX1
       clear hb2)
    | (go_at_call 80
       refine (CM.out _ HB2.out).mono ?_
       rintro e w3 ⟨rfl, rfl⟩
       obtain ⟨b1, b2, b3⟩ := box_cells (Below.refl _ _) HX02.out)
    | (go_at_call 81
       refine (CP.out _).mono ?_
       rintro e w4 ⟨rfl, hb4⟩
       obtain ⟨HB4, HX04, HX14⟩ := keepH hb4 HB2 HX02 HX12
       clear hb4 b1 b2 b3)
    | (go_at_call 30
       refine calls_named ?_
       intro W5 hW5
       have hb5 : Below w4.heap.size w4 W5 := by rw [hW5]; exact balloc (Below.refl _ _) _
       have HK5 := Lib.hid (show W5.heap[w4.heap.size]? = some (.cells #[.int .u64 k.1, .int .u64 k.2] 74 (0, 0)) by rw [hW5]; exact heap_alloc_new _ _)
       obtain ⟨HB5, HX05, HX15⟩ := keepH hb5 HB4 HX04 HX14
       clear hW5 hb5
       refine (CH.out W5 HB5.out).mono ?_
       rintro e w6 ⟨rfl, hb6⟩
       obtain ⟨HB6, HX06, HX16⟩ := keepH hb6 HB5 HX05 HX15
       have HK6 := Lib.hid ((hb6.block _ (Array.getElem?_eq_some_iff.1 HK5.out).1).trans HK5.out)
       clear hb6)
    | (go_at_call 32
       refine (CS.out _ HB6.out).mono ?_
       rintro e w7 ⟨rfl, rfl⟩
       obtain ⟨b1, b2, b3⟩ := box_cells (Below.refl _ _) HX06.out
       obtain ⟨k1, k2, k3⟩ := box_cells (Below.refl _ _) HK6.out
       clear CS)
    | (go_at_call 37
       refine (CI.out _ HB6.out).mono ?_
       rintro e w8 ⟨rfl, hd', hu'⟩
       have HD := Lib.hid hd'
       have HU := Lib.hid ((Upd.of_below HB6.out (d.fp S)).trans hu')
       have HX8 := Lib.hid (upd_at hu' HNF.out HX16.out)
       obtain ⟨y1, y2, y3⟩ := box_cells (Below.refl _ _) HX8.out
       (try unfold zR at y1)
       clear hd' hu' b1 b2 b3 k1 k2 k3))
  refine post_named ?_
  intro W9 hW9
  have hW9' : W9 = stor w8 (w.heap.size + 1) 0 (repC (repF 0)) := hW9
  obtain ⟨t1, t2, t3, t4⟩ := stor_at HX8.out (repC (repF 0)) rfl W9 hW9'
  obtain ⟨a9, a8, a7⟩ := box_cells (Below.refl _ _) t1
  clear hW9 hW9'
  exact bodyPost_ret (v := repV (repF 0)) (by simp [results, Tryz.results28, go_sem, a9, repV, repC, repF, st0, adv0]) rfl (by rw [HRR.out]; exact sto_endX (Nat.le_succ _) HD.out HU.out t2 t3 t4)

end
end

end Go.Proofs.YtmniiodpbebnmaaGreat
