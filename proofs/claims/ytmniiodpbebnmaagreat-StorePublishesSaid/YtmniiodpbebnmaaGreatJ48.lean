/- A store's Do, kind by kind; A store's Do: Trim; calls that are none; Chapter 21's awake; The short ways of stPEnds; A nil store's methods; Walks of the references' twins: flywheelref21.Check; Walks of calls.Cuts, Line, one, all, inner, Ops; Walks of calls.inner, Ops; Walks of calls.Ops; flywheelref04.Unlike: the bits of two bytes that are not alike; Walks of flywheelref04's Unlike, Step, Key, Fold, flywheelref05.Of, flywheelref29.Home: they are the program's; Walks of flywheelref04.Fold, flywheelref05.Of, flywheelref29.Home; Calls as they come in; The walk of StoreNone; The walk of StorePublishes. -/
import Derived.Test.YtmniiodpbebnmaaGreatJ46
import Derived.Test.YtmniiodpbebnmaaGreatJ47
import Derived.KernelRfl
import Derived.Test.YtmniiodpbebnmaaGreatJ09
import Derived.Test.YtmniiodpbebnmaaGreatJ43
import Derived.Test.YtmniiodpbebnmaaGreatJ14
import Derived.Deep.AppendLies
import Derived.Deep.RegionLaw
import Derived.Test.YtmniiodpbebnmaaGreatJ01
import Derived.Test.YtmniiodpbebnmaaGreatJ02
import Derived.Deep.Slices
import Derived.Lib.SmallJoins
import Derived.Test.YtmniiodpbebnmaaGreatJ03
import Derived.Test.YtmniiodpbebnmaaGreatJ45
namespace Go.Proofs.YtmniiodpbebnmaaGreat

section
set_option linter.unusedSimpArgs false
set_option linter.unusedVariables false
open Go.RowKit Go.Lib Go.Sort
open Go.ChangeMaps (setBlock)

section
variable {B : Nat → Prop} {S : Nat} {c : Cfg} {rs rh n : Nat} {wd : Wd} {d : StoD}
theorem oneW_at {id : ByteArray} {i : Nat} {R : List Itm} (hri : routeI (keyK id).1 (keyK id).2 c.st = (i : Int)) (hR : wd.st[i]? = some R) (a : Act17) : oneW c rs rh wd id a = ({ wd with st := wd.st.set i (oneP c rs rh R (keyK id) a).1 }, (oneP c rs rh R (keyK id) a).2) := by
  have e : atW c id = i := by unfold atW; omega
  unfold oneW
  rw [e, List.getD_eq_getElem?_getD, hR]
  rfl
theorem upd_at {w w' : World} {fp fp' : List Nat} {X : Nat} (hu : Upd w w' fp fp') (hX : X ∉ fp) {o : Obj} (h : w.heap[X]? = some o) : w'.heap[X]? = some o := (hu.block X (Array.getElem?_eq_some_iff.1 h).1 hX).trans h

set_option maxRecDepth 100000 in
set_option maxHeartbeats 4000000 in
theorem stoDo_1 (w : World) (h : StoreAt B w S c rs rh n wd d) (hB : ∀ b, w.heap.size ≤ b → B b) (hc : CfgOk c rs rh) (hi : WdOk c rs rh n wd) (hh : HomeOk c wd) (ht : (allW wd).length ≤ 40) (hn : n ≤ 100) (x : CallD) (hx : x.ok) (h0 : chkC x = 0) (hk : x.kind = 1) :
    Calls Tryz.prog 28 #[.pointer (some ⟨S, 0, none⟩), callV x] w (StoSays B w S c rs rh (n + 1) (d.fp S) (repV (doW c rs rh wd x).2) (doW c rs rh wd x).1) := by
  obtain ⟨kind, id, tick, val, handle, ⟨p0, p1, p2, p3, p4, p5⟩⟩ := x
  dsimp only at hk
  subst hk
  have hst : okSt c.st = true := by have := hc.cfg; unfold cfgB at this; simp only [Bool.and_eq_true] at this; exact this.1
  have hbd := okSt_bd _ hst
  have hl : (d.sts.length : Int) = c.st := by rw [h.len]; exact hi.len
  have hroom := hc.room
  have hid : id.size ≤ maxLen := hx.2.1
  obtain ⟨i, s, R, hri, hs, hR, hsk⟩ := h.home hl hst (keyK id)
  obtain ⟨r, hr⟩ : ∃ r, r = doW c rs rh wd ⟨1, id, tick, val, handle, ⟨p0, p1, p2, p3, p4, p5⟩⟩ := ⟨_, rfl⟩
  rw [← hr]
  have CK := Lib.hid (fun W => show Calls Tryz.prog 42 #[callV ⟨1, id, tick, val, handle, ⟨p0, p1, p2, p3, p4, p5⟩⟩] W fun e w' => e = .returned (.int .i64 0) ∧ Below W.heap.size W w' from h0 ▸ storeCheck_any ⟨1, id, tick, val, handle, ⟨p0, p1, p2, p3, p4, p5⟩⟩ W hx)
  have HST := Lib.hid (fun W (hW : Below w.heap.size w W) => h.avoidX (X := w.heap.size + 1) (Nat.le_succ _) hW)
  have hB1 : ∀ W, Below w.heap.size w W → w.heap.size + 1 < W.heap.size → ∀ b, W.heap.size ≤ b → B b ∧ b ≠ w.heap.size + 1 := fun W hW h1 b hb => ⟨hB b (Nat.le_trans hW.size hb), by omega⟩
  have HB1N := Lib.hid hB1
  have HNF := Lib.hid (show w.heap.size + 1 ∉ d.fp S from fun hq => by have := (h.fpLt _ hq).1; omega)
  have CM := Lib.hid (fun W (hW : Below w.heap.size w W) => stoMade_any W (h.below hW) (by omega))
  obtain ⟨pe, hpe⟩ : ∃ pe : Int, packV id = .tuple #[.agg #[.int .u64 (keyK id).1, .int .u64 (keyK id).2], .int .i64 pe] := by
    unfold packV keyK
    cases idS id with
    | true => exact ⟨0, rfl⟩
    | false => exact ⟨2, rfl⟩
  have CP := Lib.hid (fun W => show Calls Tryz.prog 81 #[.string id] W fun e w' => e = .returned (.tuple #[.agg #[.int .u64 (keyK id).1, .int .u64 (keyK id).2], .int .i64 pe]) ∧ Below W.heap.size W w' from hpe ▸ pack_any id W hid)
  have hkok := keyK_ok id
  have hrr : r = ({ wd with st := wd.st.set i (oneP c rs rh R (keyK id) ⟨0, (tick, val), pol0, adv0⟩).1 }, repF (oneP c rs rh R (keyK id) ⟨0, (tick, val), pol0, adv0⟩).2) := by
    rw [hr]
    unfold doW
    rw [if_neg (by rw [h0]; simp)]
    simp only [show ¬ (6 : Int) = 1 by decide, show ¬ (6 : Int) = 2 by decide, show ¬ (6 : Int) = 3 by decide, show ¬ (6 : Int) = 4 by decide, show ¬ (6 : Int) = 5 by decide, if_true, if_false, oneW_at hri hR]
  have herr := (tells_one hsk.tells c rs rh s.ver ⟨keyK id, hkok⟩ ⟨0, (tick, val), pol0, adv0⟩ (show ¬ (0 : Int) < 0 by decide) (show (0 : Int) ≠ 1 by decide) (show ¬ 3 < (0 : Int) by decide)).2
  have CI := Lib.hid (fun W (hW : Below w.heap.size w W) => ingest_all s.T s.M c s.ver s.es rs rh ⟨keyK id, hkok⟩ ⟨0, (tick, val), pol0, adv0⟩ W ((hsk.at_.below hW)) (hsk.sok hc hn) rfl)
  have CA := Lib.hid (fun W (hW : Below w.heap.size w W) (h1 : w.heap.size + 1 < W.heap.size) W' es' hat hab hu ho => (h.avoidX (X := w.heap.size + 1) (Nat.le_succ _) hW).act (w' := W') (hB1 W hW h1) hc hn hs hR ⟨keyK id, hkok⟩ ⟨0, (tick, val), pol0, adv0⟩ (show ¬ (0 : Int) < 0 by decide) (show (0 : Int) ≠ 1 by decide) (show ¬ 3 < (0 : Int) by decide) (es' := es') hat hab hu ho)
  rw [herr] at CI
  dsimp only at herr CI CA
  generalize (oneP c rs rh R (keyK id) ⟨0, (tick, val), pol0, adv0⟩).2 = er at CI hrr
  generalize (oneP c rs rh R (keyK id) ⟨0, (tick, val), pol0, adv0⟩).1 = R' at CA hrr
  have HRR := Lib.hid hrr
  have CH := Lib.hid (fun W (hW : Below w.heap.size w W) => show Calls Tryz.prog 30 #[.pointer (some ⟨S, 0, none⟩), .agg #[.int .u64 (keyK id).1, .int .u64 (keyK id).2]] W fun e w' => e = .returned (.int .i64 (i : Nat)) ∧ Below W.heap.size W w' from hri ▸ stoHome_any W (h.below hW) (by omega) hl (by omega) (keyK id) hkok)
  have CS := Lib.hid (fun W (hW : Below w.heap.size w W) => stoStripe_any W (h.below hW) i s hs (by omega))
  generalize keyK id = k at *
  clear h hc hi hh ht hx h0 hri hs hR hsk hr hpe hB hB1 hst hl hid hroom hbd hrr herr
  unfold callV
  go_enter Tryz.func28, Tryz.ntmps28
  go_wp2_with (first
    | (go_at_call 42
       refine calls_named ?_
       intro W1 hW1
       have HB1 := Lib.hid (show Below w.heap.size w W1 by rw [hW1]; exact balloc (balloc (Below.refl _ _) _) _)
       have HX0 := Lib.hid (show W1.heap[w.heap.size]? = some (.cells #[.int .i64 1, .string id, .int .i64 tick, .int .i64 val, .int .i64 handle, .int .i64 p0, .int .i64 p1, .int .i64 p2, .int .i64 p3, .int .i64 p4, .int .i64 p5] 37 (0, 0)) by rw [hW1]; exact box_old _ _ _)
       have HX1 := Lib.hid (show W1.heap[w.heap.size + 1]? = some (.cells zR.toArray 46 (0, 0)) by rw [hW1]; exact box_new _ _ _)
       clear hW1
       refine (CK.out W1).mono ?_
       rintro e w2 ⟨rfl, hb2⟩
       have HB2 := Lib.hid (bthen HB1.out hb2)
       have HX02 := Lib.hid ((hb2.block _ (Array.getElem?_eq_some_iff.1 HX0.out).1).trans HX0.out)
       have HX12 := Lib.hid ((hb2.block _ (Array.getElem?_eq_some_iff.1 HX1.out).1).trans HX1.out)
       clear hb2)
    | (go_at_call 80
       refine (CM.out _ HB2.out).mono ?_
       rintro e w3 ⟨rfl, rfl⟩
       obtain ⟨b1, b2, b3⟩ := box_cells (Below.refl _ _) HX02.out)
    | (go_at_call 81
       refine (CP.out _).mono ?_
       rintro e w4 ⟨rfl, hb4⟩
       have HB4 := Lib.hid (bthen HB2.out hb4)
       have HX04 := Lib.hid ((hb4.block _ (Array.getElem?_eq_some_iff.1 HX02.out).1).trans HX02.out)
       have HX14 := Lib.hid ((hb4.block _ (Array.getElem?_eq_some_iff.1 HX12.out).1).trans HX12.out)
       clear hb4 b1 b2 b3)
    | (go_at_call 30
       refine calls_named ?_
       intro W5 hW5
       have hb5 : Below w4.heap.size w4 W5 := by rw [hW5]; exact balloc (Below.refl _ _) _
       have HK5 := Lib.hid (show W5.heap[w4.heap.size]? = some (.cells #[.int .u64 k.1, .int .u64 k.2] 74 (0, 0)) by rw [hW5]; exact heap_alloc_new _ _)
       have HB5 := Lib.hid (bthen HB4.out hb5)
       have HX05 := Lib.hid ((hb5.block _ (Array.getElem?_eq_some_iff.1 HX04.out).1).trans HX04.out)
       have HX15 := Lib.hid ((hb5.block _ (Array.getElem?_eq_some_iff.1 HX14.out).1).trans HX14.out)
       clear hW5 hb5
       refine (CH.out W5 HB5.out).mono ?_
       rintro e w6 ⟨rfl, hb6⟩
       have HB6 := Lib.hid (bthen HB5.out hb6)
       have HX06 := Lib.hid ((hb6.block _ (Array.getElem?_eq_some_iff.1 HX05.out).1).trans HX05.out)
       have HX16 := Lib.hid ((hb6.block _ (Array.getElem?_eq_some_iff.1 HX15.out).1).trans HX15.out)
       have HK6 := Lib.hid ((hb6.block _ (Array.getElem?_eq_some_iff.1 HK5.out).1).trans HK5.out)
       clear hb6)
    | (go_at_call 32
       refine (CS.out _ HB6.out).mono ?_
       rintro e w7 ⟨rfl, rfl⟩
       obtain ⟨b1, b2, b3⟩ := box_cells (Below.refl _ _) HX06.out
       obtain ⟨k1, k2, k3⟩ := box_cells (Below.refl _ _) HK6.out
       clear CS)
    | (go_at_call 82
       have hlt7 := (Array.getElem?_eq_some_iff.1 HX16.out).1
       refine (CI.out _ HB6.out).mono ?_
       rintro e w8 ⟨es', rfl, hat, hab, hu, ho⟩
       obtain ⟨d', hd', hu', _⟩ := CA.out _ HB6.out hlt7 w8 es' hat hab hu ho
       have HD := Lib.hid hd'
       have HU := Lib.hid ((Upd.of_below HB6.out (d.fp S)).trans hu')
       have HX8 := Lib.hid (upd_at hu' HNF.out HX16.out)
       obtain ⟨y1, y2, y3⟩ := box_cells (Below.refl _ _) HX8.out
       unfold zR at y1
       clear hat hab hu ho hd' hu' b1 b2 b3 k1 k2 k3 hlt7))
  refine post_named ?_
  intro W9 hW9
  have hW9' : W9 = stor w8 (w.heap.size + 1) 0 (repC (repF er)) := hW9
  obtain ⟨t1, t2, t3, t4⟩ := stor_at HX8.out (repC (repF er)) rfl W9 hW9'
  obtain ⟨a9, a8, a7⟩ := box_cells (Below.refl _ _) t1
  clear hW9 hW9'
  exact bodyPost_ret (v := repV (repF er)) (by simp [results, Tryz.results28, go_sem, a9, repV, repC, repF, st0, adv0]) rfl (by rw [HRR.out]; exact sto_endX (Nat.le_succ _) HD.out HU.out t2 t3 t4)

set_option maxRecDepth 100000 in
set_option maxHeartbeats 4000000 in
theorem stoDo_6 (w : World) (h : StoreAt B w S c rs rh n wd d) (hB : ∀ b, w.heap.size ≤ b → B b) (hc : CfgOk c rs rh) (hi : WdOk c rs rh n wd) (hh : HomeOk c wd) (ht : (allW wd).length ≤ 40) (hn : n ≤ 100) (x : CallD) (hx : x.ok) (h0 : chkC x = 0) (hk : x.kind = 6) :
    Calls Tryz.prog 28 #[.pointer (some ⟨S, 0, none⟩), callV x] w (StoSays B w S c rs rh (n + 1) (d.fp S) (repV (doW c rs rh wd x).2) (doW c rs rh wd x).1) := by
  obtain ⟨kind, id, tick, val, handle, ⟨p0, p1, p2, p3, p4, p5⟩⟩ := x
  dsimp only at hk
  subst hk
  have hst : okSt c.st = true := by have := hc.cfg; unfold cfgB at this; simp only [Bool.and_eq_true] at this; exact this.1
  have hbd := okSt_bd _ hst
  have hl : (d.sts.length : Int) = c.st := by rw [h.len]; exact hi.len
  have hroom := hc.room
  have hid : id.size ≤ maxLen := hx.2.1
  obtain ⟨i, s, R, hri, hs, hR, hsk⟩ := h.home hl hst (keyK id)
  obtain ⟨r, hr⟩ : ∃ r, r = doW c rs rh wd ⟨6, id, tick, val, handle, ⟨p0, p1, p2, p3, p4, p5⟩⟩ := ⟨_, rfl⟩
  rw [← hr]
  have CK := Lib.hid (fun W => show Calls Tryz.prog 42 #[callV ⟨6, id, tick, val, handle, ⟨p0, p1, p2, p3, p4, p5⟩⟩] W fun e w' => e = .returned (.int .i64 0) ∧ Below W.heap.size W w' from h0 ▸ storeCheck_any ⟨6, id, tick, val, handle, ⟨p0, p1, p2, p3, p4, p5⟩⟩ W hx)
  have HST := Lib.hid (fun W (hW : Below w.heap.size w W) => h.avoidX (X := w.heap.size + 1) (Nat.le_succ _) hW)
  have hB1 : ∀ W, Below w.heap.size w W → w.heap.size + 1 < W.heap.size → ∀ b, W.heap.size ≤ b → B b ∧ b ≠ w.heap.size + 1 := fun W hW h1 b hb => ⟨hB b (Nat.le_trans hW.size hb), by omega⟩
  have HB1N := Lib.hid hB1
  have HNF := Lib.hid (show w.heap.size + 1 ∉ d.fp S from fun hq => by have := (h.fpLt _ hq).1; omega)
  have CM := Lib.hid (fun W (hW : Below w.heap.size w W) => stoMade_any W (h.below hW) (by omega))
  obtain ⟨pe, hpe⟩ : ∃ pe : Int, packV id = .tuple #[.agg #[.int .u64 (keyK id).1, .int .u64 (keyK id).2], .int .i64 pe] := by
    unfold packV keyK
    cases idS id with
    | true => exact ⟨0, rfl⟩
    | false => exact ⟨2, rfl⟩
  have CP := Lib.hid (fun W => show Calls Tryz.prog 81 #[.string id] W fun e w' => e = .returned (.tuple #[.agg #[.int .u64 (keyK id).1, .int .u64 (keyK id).2], .int .i64 pe]) ∧ Below W.heap.size W w' from hpe ▸ pack_any id W hid)
  have hkok := keyK_ok id
  have hrr : r = ({ wd with st := wd.st.set i (oneP c rs rh R (keyK id) ⟨2, (0, 0), ⟨p0, p1, p2, p3, p4, p5⟩, adv0⟩).1 }, repF (oneP c rs rh R (keyK id) ⟨2, (0, 0), ⟨p0, p1, p2, p3, p4, p5⟩, adv0⟩).2) := by
    rw [hr]
    unfold doW
    rw [if_neg (by rw [h0]; simp)]
    simp only [show ¬ (6 : Int) = 1 by decide, show ¬ (6 : Int) = 2 by decide, show ¬ (6 : Int) = 3 by decide, show ¬ (6 : Int) = 4 by decide, show ¬ (6 : Int) = 5 by decide, if_true, if_false, oneW_at hri hR]
  have herr := (tells_one hsk.tells c rs rh s.ver ⟨keyK id, hkok⟩ ⟨2, (0, 0), ⟨p0, p1, p2, p3, p4, p5⟩, adv0⟩ (show ¬ (2 : Int) < 0 by decide) (show (2 : Int) ≠ 1 by decide) (show ¬ 3 < (2 : Int) by decide)).2
  have CI := Lib.hid (fun W (hW : Below w.heap.size w W) => set_all s.T s.M c s.ver s.es rs rh ⟨keyK id, hkok⟩ ⟨2, (0, 0), ⟨p0, p1, p2, p3, p4, p5⟩, adv0⟩ W ((hsk.at_.below hW)) (hsk.sok hc hn) rfl)
  have CA := Lib.hid (fun W (hW : Below w.heap.size w W) (h1 : w.heap.size + 1 < W.heap.size) W' es' hat hab hu ho => (h.avoidX (X := w.heap.size + 1) (Nat.le_succ _) hW).act (w' := W') (hB1 W hW h1) hc hn hs hR ⟨keyK id, hkok⟩ ⟨2, (0, 0), ⟨p0, p1, p2, p3, p4, p5⟩, adv0⟩ (show ¬ (2 : Int) < 0 by decide) (show (2 : Int) ≠ 1 by decide) (show ¬ 3 < (2 : Int) by decide) (es' := es') hat hab hu ho)
  rw [herr] at CI
  unfold polV at CI
  dsimp only at herr CI CA
  generalize (oneP c rs rh R (keyK id) ⟨2, (0, 0), ⟨p0, p1, p2, p3, p4, p5⟩, adv0⟩).2 = er at CI hrr
  generalize (oneP c rs rh R (keyK id) ⟨2, (0, 0), ⟨p0, p1, p2, p3, p4, p5⟩, adv0⟩).1 = R' at CA hrr
  have HRR := Lib.hid hrr
  have CH := Lib.hid (fun W (hW : Below w.heap.size w W) => show Calls Tryz.prog 30 #[.pointer (some ⟨S, 0, none⟩), .agg #[.int .u64 (keyK id).1, .int .u64 (keyK id).2]] W fun e w' => e = .returned (.int .i64 (i : Nat)) ∧ Below W.heap.size W w' from hri ▸ stoHome_any W (h.below hW) (by omega) hl (by omega) (keyK id) hkok)
  have CS := Lib.hid (fun W (hW : Below w.heap.size w W) => stoStripe_any W (h.below hW) i s hs (by omega))
  generalize keyK id = k at *
  clear h hc hi hh ht hx h0 hri hs hR hsk hr hpe hB hB1 hst hl hid hroom hbd hrr herr
  unfold callV
  go_enter Tryz.func28, Tryz.ntmps28
  go_wp2_with (first
    | (go_at_call 42
       refine calls_named ?_
       intro W1 hW1
       have HB1 := Lib.hid (show Below w.heap.size w W1 by rw [hW1]; exact balloc (balloc (Below.refl _ _) _) _)
       have HX0 := Lib.hid (show W1.heap[w.heap.size]? = some (.cells #[.int .i64 6, .string id, .int .i64 tick, .int .i64 val, .int .i64 handle, .int .i64 p0, .int .i64 p1, .int .i64 p2, .int .i64 p3, .int .i64 p4, .int .i64 p5] 37 (0, 0)) by rw [hW1]; exact box_old _ _ _)
       have HX1 := Lib.hid (show W1.heap[w.heap.size + 1]? = some (.cells zR.toArray 46 (0, 0)) by rw [hW1]; exact box_new _ _ _)
       clear hW1
       refine (CK.out W1).mono ?_
       rintro e w2 ⟨rfl, hb2⟩
       have HB2 := Lib.hid (bthen HB1.out hb2)
       have HX02 := Lib.hid ((hb2.block _ (Array.getElem?_eq_some_iff.1 HX0.out).1).trans HX0.out)
       have HX12 := Lib.hid ((hb2.block _ (Array.getElem?_eq_some_iff.1 HX1.out).1).trans HX1.out)
       clear hb2)
    | (go_at_call 80
       refine (CM.out _ HB2.out).mono ?_
       rintro e w3 ⟨rfl, rfl⟩
       obtain ⟨b1, b2, b3⟩ := box_cells (Below.refl _ _) HX02.out)
    | (go_at_call 81
       refine (CP.out _).mono ?_
       rintro e w4 ⟨rfl, hb4⟩
       have HB4 := Lib.hid (bthen HB2.out hb4)
       have HX04 := Lib.hid ((hb4.block _ (Array.getElem?_eq_some_iff.1 HX02.out).1).trans HX02.out)
       have HX14 := Lib.hid ((hb4.block _ (Array.getElem?_eq_some_iff.1 HX12.out).1).trans HX12.out)
       clear hb4 b1 b2 b3)
    | (go_at_call 30
       refine calls_named ?_
       intro W5 hW5
       have hb5 : Below w4.heap.size w4 W5 := by rw [hW5]; exact balloc (Below.refl _ _) _
       have HK5 := Lib.hid (show W5.heap[w4.heap.size]? = some (.cells #[.int .u64 k.1, .int .u64 k.2] 74 (0, 0)) by rw [hW5]; exact heap_alloc_new _ _)
       have HB5 := Lib.hid (bthen HB4.out hb5)
       have HX05 := Lib.hid ((hb5.block _ (Array.getElem?_eq_some_iff.1 HX04.out).1).trans HX04.out)
       have HX15 := Lib.hid ((hb5.block _ (Array.getElem?_eq_some_iff.1 HX14.out).1).trans HX14.out)
       clear hW5 hb5
       refine (CH.out W5 HB5.out).mono ?_
       rintro e w6 ⟨rfl, hb6⟩
       have HB6 := Lib.hid (bthen HB5.out hb6)
       have HX06 := Lib.hid ((hb6.block _ (Array.getElem?_eq_some_iff.1 HX05.out).1).trans HX05.out)
       have HX16 := Lib.hid ((hb6.block _ (Array.getElem?_eq_some_iff.1 HX15.out).1).trans HX15.out)
       have HK6 := Lib.hid ((hb6.block _ (Array.getElem?_eq_some_iff.1 HK5.out).1).trans HK5.out)
       clear hb6)
    | (go_at_call 32
       refine (CS.out _ HB6.out).mono ?_
       rintro e w7 ⟨rfl, rfl⟩
       obtain ⟨b1, b2, b3⟩ := box_cells (Below.refl _ _) HX06.out
       obtain ⟨k1, k2, k3⟩ := box_cells (Below.refl _ _) HK6.out
       clear CS)
    | (go_at_call 86
       have hlt7 := (Array.getElem?_eq_some_iff.1 HX16.out).1
       refine (CI.out _ HB6.out).mono ?_
       rintro e w8 ⟨es', rfl, hat, hab, hu, ho⟩
       obtain ⟨d', hd', hu', _⟩ := CA.out _ HB6.out hlt7 w8 es' hat hab hu ho
       have HD := Lib.hid hd'
       have HU := Lib.hid ((Upd.of_below HB6.out (d.fp S)).trans hu')
       have HX8 := Lib.hid (upd_at hu' HNF.out HX16.out)
       obtain ⟨y1, y2, y3⟩ := box_cells (Below.refl _ _) HX8.out
       unfold zR at y1
       clear hat hab hu ho hd' hu' b1 b2 b3 k1 k2 k3 hlt7))
  refine post_named ?_
  intro W9 hW9
  have hW9' : W9 = stor w8 (w.heap.size + 1) 0 (repC (repF er)) := hW9
  obtain ⟨t1, t2, t3, t4⟩ := stor_at HX8.out (repC (repF er)) rfl W9 hW9'
  obtain ⟨a9, a8, a7⟩ := box_cells (Below.refl _ _) t1
  clear hW9 hW9'
  exact bodyPost_ret (v := repV (repF er)) (by simp [results, Tryz.results28, go_sem, a9, repV, repC, repF, st0, adv0]) rfl (by rw [HRR.out]; exact sto_endX (Nat.le_succ _) HD.out HU.out t2 t3 t4)

set_option maxRecDepth 100000 in
set_option maxHeartbeats 4000000 in
theorem stoDo_3 (w : World) (h : StoreAt B w S c rs rh n wd d) (hB : ∀ b, w.heap.size ≤ b → B b) (hc : CfgOk c rs rh) (hi : WdOk c rs rh n wd) (hh : HomeOk c wd) (ht : (allW wd).length ≤ 40) (hn : n ≤ 100) (x : CallD) (hx : x.ok) (h0 : chkC x = 0) (hk : x.kind = 3) :
    Calls Tryz.prog 28 #[.pointer (some ⟨S, 0, none⟩), callV x] w (StoSays B w S c rs rh (n + 1) (d.fp S) (repV (doW c rs rh wd x).2) (doW c rs rh wd x).1) := by
  obtain ⟨kind, id, tick, val, handle, ⟨p0, p1, p2, p3, p4, p5⟩⟩ := x
  dsimp only at hk
  subst hk
  have hst : okSt c.st = true := by have := hc.cfg; unfold cfgB at this; simp only [Bool.and_eq_true] at this; exact this.1
  have hbd := okSt_bd _ hst
  have hl : (d.sts.length : Int) = c.st := by rw [h.len]; exact hi.len
  have hroom := hc.room
  have hid : id.size ≤ maxLen := hx.2.1
  obtain ⟨i, s, R, hri, hs, hR, hsk⟩ := h.home hl hst (keyK id)
  obtain ⟨r, hr⟩ : ∃ r, r = doW c rs rh wd ⟨3, id, tick, val, handle, ⟨p0, p1, p2, p3, p4, p5⟩⟩ := ⟨_, rfl⟩
  rw [← hr]
  have CK := Lib.hid (fun W => show Calls Tryz.prog 42 #[callV ⟨3, id, tick, val, handle, ⟨p0, p1, p2, p3, p4, p5⟩⟩] W fun e w' => e = .returned (.int .i64 0) ∧ Below W.heap.size W w' from h0 ▸ storeCheck_any ⟨3, id, tick, val, handle, ⟨p0, p1, p2, p3, p4, p5⟩⟩ W hx)
  have HST := Lib.hid (fun W (hW : Below w.heap.size w W) => h.avoidX (X := w.heap.size + 1) (Nat.le_succ _) hW)
  have hB1 : ∀ W, Below w.heap.size w W → w.heap.size + 1 < W.heap.size → ∀ b, W.heap.size ≤ b → B b ∧ b ≠ w.heap.size + 1 := fun W hW h1 b hb => ⟨hB b (Nat.le_trans hW.size hb), by omega⟩
  have HB1N := Lib.hid hB1
  have HNF := Lib.hid (show w.heap.size + 1 ∉ d.fp S from fun hq => by have := (h.fpLt _ hq).1; omega)
  have CM := Lib.hid (fun W (hW : Below w.heap.size w W) => stoMade_any W (h.below hW) (by omega))
  obtain ⟨pe, hpe⟩ : ∃ pe : Int, packV id = .tuple #[.agg #[.int .u64 (keyK id).1, .int .u64 (keyK id).2], .int .i64 pe] := by
    unfold packV keyK
    cases idS id with
    | true => exact ⟨0, rfl⟩
    | false => exact ⟨2, rfl⟩
  have CP := Lib.hid (fun W => show Calls Tryz.prog 81 #[.string id] W fun e w' => e = .returned (.tuple #[.agg #[.int .u64 (keyK id).1, .int .u64 (keyK id).2], .int .i64 pe]) ∧ Below W.heap.size W w' from hpe ▸ pack_any id W hid)
  have hkok := keyK_ok id
  have hrr : r = snapW wd := by
    rw [hr]
    unfold doW
    rw [if_neg (by rw [h0]; simp)]
    simp only [show ¬ (3 : Int) = 1 by decide, show ¬ (3 : Int) = 2 by decide, if_true, if_false]
  have CI := Lib.hid (fun W (hW : Below w.heap.size w W) (h1 : w.heap.size + 1 < W.heap.size) => stoSnap_any W (h.avoidX (X := w.heap.size + 1) (Nat.le_succ _) hW) (hB1 W hW h1) (by omega) (by omega) hh ht (by omega) (by have := hi.cuts; omega) ⟨hi.ep.1, by have := hi.ep.2; omega⟩)
  rw [← hrr] at CI
  obtain ⟨wd', ⟨e0, e1, e2, ⟨s0, s1, s2, s3, s4⟩, ⟨a0, a1, a2, a3, a4⟩⟩⟩ := r
  have HRR := Lib.hid (show ((wd', ⟨e0, e1, e2, ⟨s0, s1, s2, s3, s4⟩, ⟨a0, a1, a2, a3, a4⟩⟩) : Wd × RepD) = (wd', ⟨e0, e1, e2, ⟨s0, s1, s2, s3, s4⟩, ⟨a0, a1, a2, a3, a4⟩⟩) from rfl)
  unfold repV repC at CI
  dsimp only at CI
  have CH := Lib.hid (fun W (hW : Below w.heap.size w W) => show Calls Tryz.prog 30 #[.pointer (some ⟨S, 0, none⟩), .agg #[.int .u64 (keyK id).1, .int .u64 (keyK id).2]] W fun e w' => e = .returned (.int .i64 (i : Nat)) ∧ Below W.heap.size W w' from hri ▸ stoHome_any W (h.below hW) (by omega) hl (by omega) (keyK id) hkok)
  have CS := Lib.hid (fun W (hW : Below w.heap.size w W) => stoStripe_any W (h.below hW) i s hs (by omega))
  generalize keyK id = k at *
  clear h hc hi hh ht hx h0 hri hs hR hsk hr hpe hB hB1 hst hl hid hroom hbd hrr
  unfold callV
  go_enter Tryz.func28, Tryz.ntmps28
  go_wp2_with (first
    | (go_at_call 42
       refine calls_named ?_
       intro W1 hW1
       have HB1 := Lib.hid (show Below w.heap.size w W1 by rw [hW1]; exact balloc (balloc (Below.refl _ _) _) _)
       have HX0 := Lib.hid (show W1.heap[w.heap.size]? = some (.cells #[.int .i64 3, .string id, .int .i64 tick, .int .i64 val, .int .i64 handle, .int .i64 p0, .int .i64 p1, .int .i64 p2, .int .i64 p3, .int .i64 p4, .int .i64 p5] 37 (0, 0)) by rw [hW1]; exact box_old _ _ _)
       have HX1 := Lib.hid (show W1.heap[w.heap.size + 1]? = some (.cells zR.toArray 46 (0, 0)) by rw [hW1]; exact box_new _ _ _)
       clear hW1
       refine (CK.out W1).mono ?_
       rintro e w2 ⟨rfl, hb2⟩
       have HB2 := Lib.hid (bthen HB1.out hb2)
       have HX02 := Lib.hid ((hb2.block _ (Array.getElem?_eq_some_iff.1 HX0.out).1).trans HX0.out)
       have HX12 := Lib.hid ((hb2.block _ (Array.getElem?_eq_some_iff.1 HX1.out).1).trans HX1.out)
       clear hb2)
    | (go_at_call 80
       refine (CM.out _ HB2.out).mono ?_
       rintro e w3 ⟨rfl, rfl⟩
       obtain ⟨b1, b2, b3⟩ := box_cells (Below.refl _ _) HX02.out)
    | (go_at_call 81
       refine (CP.out _).mono ?_
       rintro e w4 ⟨rfl, hb4⟩
       have HB4 := Lib.hid (bthen HB2.out hb4)
       have HX04 := Lib.hid ((hb4.block _ (Array.getElem?_eq_some_iff.1 HX02.out).1).trans HX02.out)
       have HX14 := Lib.hid ((hb4.block _ (Array.getElem?_eq_some_iff.1 HX12.out).1).trans HX12.out)
       clear hb4 b1 b2 b3)
    | (go_at_call 30
       refine calls_named ?_
       intro W5 hW5
       have hb5 : Below w4.heap.size w4 W5 := by rw [hW5]; exact balloc (Below.refl _ _) _
       have HK5 := Lib.hid (show W5.heap[w4.heap.size]? = some (.cells #[.int .u64 k.1, .int .u64 k.2] 74 (0, 0)) by rw [hW5]; exact heap_alloc_new _ _)
       have HB5 := Lib.hid (bthen HB4.out hb5)
       have HX05 := Lib.hid ((hb5.block _ (Array.getElem?_eq_some_iff.1 HX04.out).1).trans HX04.out)
       have HX15 := Lib.hid ((hb5.block _ (Array.getElem?_eq_some_iff.1 HX14.out).1).trans HX14.out)
       clear hW5 hb5
       refine (CH.out W5 HB5.out).mono ?_
       rintro e w6 ⟨rfl, hb6⟩
       have HB6 := Lib.hid (bthen HB5.out hb6)
       have HX06 := Lib.hid ((hb6.block _ (Array.getElem?_eq_some_iff.1 HX05.out).1).trans HX05.out)
       have HX16 := Lib.hid ((hb6.block _ (Array.getElem?_eq_some_iff.1 HX15.out).1).trans HX15.out)
       have HK6 := Lib.hid ((hb6.block _ (Array.getElem?_eq_some_iff.1 HK5.out).1).trans HK5.out)
       clear hb6)
    | (go_at_call 32
       refine (CS.out _ HB6.out).mono ?_
       rintro e w7 ⟨rfl, rfl⟩
       obtain ⟨b1, b2, b3⟩ := box_cells (Below.refl _ _) HX06.out
       obtain ⟨k1, k2, k3⟩ := box_cells (Below.refl _ _) HK6.out
       clear CS)
    | (go_at_call 84
       have hlt7 := (Array.getElem?_eq_some_iff.1 HX16.out).1
       refine (CI.out _ HB6.out hlt7).mono ?_
       rintro e w8 ⟨fp', rfl, ⟨d', hd', rfl⟩, hu'⟩
       have HD := Lib.hid (hd'.mono (Nat.le_succ n))
       have HU := Lib.hid ((Upd.of_below HB6.out (d.fp S)).trans hu')
       have HX8 := Lib.hid (upd_at hu' HNF.out HX16.out)
       obtain ⟨y1, y2, y3⟩ := box_cells (Below.refl _ _) HX8.out
       unfold zR at y1
       clear hd' hu' b1 b2 b3 k1 k2 k3 hlt7))
  refine post_named ?_
  intro W9 hW9
  have hW9' : W9 = stor w8 (w.heap.size + 1) 0 (repC ⟨e0, e1, e2, ⟨s0, s1, s2, s3, s4⟩, ⟨a0, a1, a2, a3, a4⟩⟩) := hW9
  obtain ⟨t1, t2, t3, t4⟩ := stor_at HX8.out (repC ⟨e0, e1, e2, ⟨s0, s1, s2, s3, s4⟩, ⟨a0, a1, a2, a3, a4⟩⟩) rfl W9 hW9'
  obtain ⟨a9, a8, a7⟩ := box_cells (Below.refl _ _) t1
  clear hW9 hW9'
  exact bodyPost_ret (v := repV ⟨e0, e1, e2, ⟨s0, s1, s2, s3, s4⟩, ⟨a0, a1, a2, a3, a4⟩⟩) (by simp [results, Tryz.results28, go_sem, a9, repV, repC, repF, st0, adv0]) rfl (by exact sto_endX (Nat.le_succ _) HD.out HU.out t2 t3 t4)

set_option maxRecDepth 100000 in
set_option maxHeartbeats 4000000 in
theorem stoDo_5 (w : World) (h : StoreAt B w S c rs rh n wd d) (hB : ∀ b, w.heap.size ≤ b → B b) (hc : CfgOk c rs rh) (hi : WdOk c rs rh n wd) (hh : HomeOk c wd) (ht : (allW wd).length ≤ 40) (hn : n ≤ 100) (x : CallD) (hx : x.ok) (h0 : chkC x = 0) (hk : x.kind = 5) :
    Calls Tryz.prog 28 #[.pointer (some ⟨S, 0, none⟩), callV x] w (StoSays B w S c rs rh (n + 1) (d.fp S) (repV (doW c rs rh wd x).2) (doW c rs rh wd x).1) := by
  obtain ⟨kind, id, tick, val, handle, ⟨p0, p1, p2, p3, p4, p5⟩⟩ := x
  dsimp only at hk
  subst hk
  have hst : okSt c.st = true := by have := hc.cfg; unfold cfgB at this; simp only [Bool.and_eq_true] at this; exact this.1
  have hbd := okSt_bd _ hst
  have hl : (d.sts.length : Int) = c.st := by rw [h.len]; exact hi.len
  have hroom := hc.room
  have hid : id.size ≤ maxLen := hx.2.1
  obtain ⟨i, s, R, hri, hs, hR, hsk⟩ := h.home hl hst (keyK id)
  obtain ⟨r, hr⟩ : ∃ r, r = doW c rs rh wd ⟨5, id, tick, val, handle, ⟨p0, p1, p2, p3, p4, p5⟩⟩ := ⟨_, rfl⟩
  rw [← hr]
  have CK := Lib.hid (fun W => show Calls Tryz.prog 42 #[callV ⟨5, id, tick, val, handle, ⟨p0, p1, p2, p3, p4, p5⟩⟩] W fun e w' => e = .returned (.int .i64 0) ∧ Below W.heap.size W w' from h0 ▸ storeCheck_any ⟨5, id, tick, val, handle, ⟨p0, p1, p2, p3, p4, p5⟩⟩ W hx)
  have HST := Lib.hid (fun W (hW : Below w.heap.size w W) => h.avoidX (X := w.heap.size + 1) (Nat.le_succ _) hW)
  have hB1 : ∀ W, Below w.heap.size w W → w.heap.size + 1 < W.heap.size → ∀ b, W.heap.size ≤ b → B b ∧ b ≠ w.heap.size + 1 := fun W hW h1 b hb => ⟨hB b (Nat.le_trans hW.size hb), by omega⟩
  have HB1N := Lib.hid hB1
  have HNF := Lib.hid (show w.heap.size + 1 ∉ d.fp S from fun hq => by have := (h.fpLt _ hq).1; omega)
  have CM := Lib.hid (fun W (hW : Below w.heap.size w W) => stoMade_any W (h.below hW) (by omega))
  obtain ⟨pe, hpe⟩ : ∃ pe : Int, packV id = .tuple #[.agg #[.int .u64 (keyK id).1, .int .u64 (keyK id).2], .int .i64 pe] := by
    unfold packV keyK
    cases idS id with
    | true => exact ⟨0, rfl⟩
    | false => exact ⟨2, rfl⟩
  have CP := Lib.hid (fun W => show Calls Tryz.prog 81 #[.string id] W fun e w' => e = .returned (.tuple #[.agg #[.int .u64 (keyK id).1, .int .u64 (keyK id).2], .int .i64 pe]) ∧ Below W.heap.size W w' from hpe ▸ pack_any id W hid)
  have hkok := keyK_ok id
  have hrr : r = (wd, lookW wd ⟨5, id, tick, val, handle, ⟨p0, p1, p2, p3, p4, p5⟩⟩) := by
    rw [hr]
    unfold doW
    rw [if_neg (by rw [h0]; simp)]
    simp only [show ¬ (5 : Int) = 1 by decide, show ¬ (5 : Int) = 2 by decide, show ¬ (5 : Int) = 3 by decide, show ¬ (5 : Int) = 4 by decide, if_true, if_false]
  have CI := Lib.hid (fun W (hW : Below w.heap.size w W) => stoLook_any W (h.below hW) (by omega) (by have := hi.cuts; omega) (fun q hq => (hi.cep q hq).1) (fun q hq p hp => ((hi.cit q hq).2 p hp).smp) hroom.r2 handle (keyK id) tick val hx.2.2.1 hx.2.2.2.1)
  obtain ⟨rp, hrp⟩ : ∃ rp, rp = lookK wd handle (keyK id) tick val := ⟨_, rfl⟩
  rw [← hrp] at CI
  have hrr2 : r = (wd, rp) := by rw [hrr, hrp]; rfl
  obtain ⟨e0, e1, e2, ⟨s0, s1, s2, s3, s4⟩, ⟨a0, a1, a2, a3, a4⟩⟩ := rp
  have HRR := Lib.hid hrr2
  have HSTN := Lib.hid (fun W (hW : Below w.heap.size w W) => (h.avoidX (X := w.heap.size + 1) (Nat.le_succ _) hW).mono (Nat.le_succ n))
  unfold repV repC at CI
  dsimp only at CI
  have CH := Lib.hid (fun W (hW : Below w.heap.size w W) => show Calls Tryz.prog 30 #[.pointer (some ⟨S, 0, none⟩), .agg #[.int .u64 (keyK id).1, .int .u64 (keyK id).2]] W fun e w' => e = .returned (.int .i64 (i : Nat)) ∧ Below W.heap.size W w' from hri ▸ stoHome_any W (h.below hW) (by omega) hl (by omega) (keyK id) hkok)
  have CS := Lib.hid (fun W (hW : Below w.heap.size w W) => stoStripe_any W (h.below hW) i s hs (by omega))
  generalize keyK id = k at *
  clear h hc hi hh ht hx h0 hri hs hR hsk hr hpe hB hB1 hst hl hid hroom hbd hrr hrr2 hrp
  unfold callV
  go_enter Tryz.func28, Tryz.ntmps28
  go_wp2_with (first
    | (go_at_call 42
       refine calls_named ?_
       intro W1 hW1
       have HB1 := Lib.hid (show Below w.heap.size w W1 by rw [hW1]; exact balloc (balloc (Below.refl _ _) _) _)
       have HX0 := Lib.hid (show W1.heap[w.heap.size]? = some (.cells #[.int .i64 5, .string id, .int .i64 tick, .int .i64 val, .int .i64 handle, .int .i64 p0, .int .i64 p1, .int .i64 p2, .int .i64 p3, .int .i64 p4, .int .i64 p5] 37 (0, 0)) by rw [hW1]; exact box_old _ _ _)
       have HX1 := Lib.hid (show W1.heap[w.heap.size + 1]? = some (.cells zR.toArray 46 (0, 0)) by rw [hW1]; exact box_new _ _ _)
       clear hW1
       refine (CK.out W1).mono ?_
       rintro e w2 ⟨rfl, hb2⟩
       have HB2 := Lib.hid (bthen HB1.out hb2)
       have HX02 := Lib.hid ((hb2.block _ (Array.getElem?_eq_some_iff.1 HX0.out).1).trans HX0.out)
       have HX12 := Lib.hid ((hb2.block _ (Array.getElem?_eq_some_iff.1 HX1.out).1).trans HX1.out)
       clear hb2)
    | (go_at_call 80
       refine (CM.out _ HB2.out).mono ?_
       rintro e w3 ⟨rfl, rfl⟩
       obtain ⟨b1, b2, b3⟩ := box_cells (Below.refl _ _) HX02.out)
    | (go_at_call 81
       refine (CP.out _).mono ?_
       rintro e w4 ⟨rfl, hb4⟩
       have HB4 := Lib.hid (bthen HB2.out hb4)
       have HX04 := Lib.hid ((hb4.block _ (Array.getElem?_eq_some_iff.1 HX02.out).1).trans HX02.out)
       have HX14 := Lib.hid ((hb4.block _ (Array.getElem?_eq_some_iff.1 HX12.out).1).trans HX12.out)
       clear hb4 b1 b2 b3)
    | (go_at_call 30
       refine calls_named ?_
       intro W5 hW5
       have hb5 : Below w4.heap.size w4 W5 := by rw [hW5]; exact balloc (Below.refl _ _) _
       have HK5 := Lib.hid (show W5.heap[w4.heap.size]? = some (.cells #[.int .u64 k.1, .int .u64 k.2] 74 (0, 0)) by rw [hW5]; exact heap_alloc_new _ _)
       have HB5 := Lib.hid (bthen HB4.out hb5)
       have HX05 := Lib.hid ((hb5.block _ (Array.getElem?_eq_some_iff.1 HX04.out).1).trans HX04.out)
       have HX15 := Lib.hid ((hb5.block _ (Array.getElem?_eq_some_iff.1 HX14.out).1).trans HX14.out)
       clear hW5 hb5
       refine (CH.out W5 HB5.out).mono ?_
       rintro e w6 ⟨rfl, hb6⟩
       have HB6 := Lib.hid (bthen HB5.out hb6)
       have HX06 := Lib.hid ((hb6.block _ (Array.getElem?_eq_some_iff.1 HX05.out).1).trans HX05.out)
       have HX16 := Lib.hid ((hb6.block _ (Array.getElem?_eq_some_iff.1 HX15.out).1).trans HX15.out)
       have HK6 := Lib.hid ((hb6.block _ (Array.getElem?_eq_some_iff.1 HK5.out).1).trans HK5.out)
       clear hb6)
    | (go_at_call 32
       refine (CS.out _ HB6.out).mono ?_
       rintro e w7 ⟨rfl, rfl⟩
       obtain ⟨b1, b2, b3⟩ := box_cells (Below.refl _ _) HX06.out
       obtain ⟨k1, k2, k3⟩ := box_cells (Below.refl _ _) HK6.out
       clear CS)
    | (go_at_call 85
       refine (CI.out _ HB6.out).mono ?_
       rintro e w8 ⟨rfl, hb8⟩
       have HD := Lib.hid (HSTN.out _ (bthen HB6.out hb8))
       have HU := Lib.hid (Upd.of_below (bthen HB6.out hb8) (d.fp S))
       have HX8 := Lib.hid ((hb8.block _ (Array.getElem?_eq_some_iff.1 HX16.out).1).trans HX16.out)
       obtain ⟨y1, y2, y3⟩ := box_cells (Below.refl _ _) HX8.out
       unfold zR at y1
       clear hb8 b1 b2 b3 k1 k2 k3))
  refine post_named ?_
  intro W9 hW9
  have hW9' : W9 = stor w8 (w.heap.size + 1) 0 (repC ⟨e0, e1, e2, ⟨s0, s1, s2, s3, s4⟩, ⟨a0, a1, a2, a3, a4⟩⟩) := hW9
  obtain ⟨t1, t2, t3, t4⟩ := stor_at HX8.out (repC ⟨e0, e1, e2, ⟨s0, s1, s2, s3, s4⟩, ⟨a0, a1, a2, a3, a4⟩⟩) rfl W9 hW9'
  obtain ⟨a9, a8, a7⟩ := box_cells (Below.refl _ _) t1
  clear hW9 hW9'
  exact bodyPost_ret (v := repV ⟨e0, e1, e2, ⟨s0, s1, s2, s3, s4⟩, ⟨a0, a1, a2, a3, a4⟩⟩) (by simp [results, Tryz.results28, go_sem, a9, repV, repC, repF, st0, adv0]) rfl (by rw [HRR.out]; exact sto_endX (Nat.le_succ _) HD.out HU.out t2 t3 t4)

set_option maxRecDepth 100000 in
set_option maxHeartbeats 4000000 in
theorem stoDo_7 (w : World) (h : StoreAt B w S c rs rh n wd d) (hB : ∀ b, w.heap.size ≤ b → B b) (hc : CfgOk c rs rh) (hi : WdOk c rs rh n wd) (hh : HomeOk c wd) (ht : (allW wd).length ≤ 40) (hn : n ≤ 100) (x : CallD) (hx : x.ok) (h0 : chkC x = 0) (hk : x.kind = 7) :
    Calls Tryz.prog 28 #[.pointer (some ⟨S, 0, none⟩), callV x] w (StoSays B w S c rs rh (n + 1) (d.fp S) (repV (doW c rs rh wd x).2) (doW c rs rh wd x).1) := by
  obtain ⟨kind, id, tick, val, handle, ⟨p0, p1, p2, p3, p4, p5⟩⟩ := x
  dsimp only at hk
  subst hk
  have hst : okSt c.st = true := by have := hc.cfg; unfold cfgB at this; simp only [Bool.and_eq_true] at this; exact this.1
  have hbd := okSt_bd _ hst
  have hl : (d.sts.length : Int) = c.st := by rw [h.len]; exact hi.len
  have hroom := hc.room
  have hid : id.size ≤ maxLen := hx.2.1
  obtain ⟨i, s, R, hri, hs, hR, hsk⟩ := h.home hl hst (keyK id)
  obtain ⟨r, hr⟩ : ∃ r, r = doW c rs rh wd ⟨7, id, tick, val, handle, ⟨p0, p1, p2, p3, p4, p5⟩⟩ := ⟨_, rfl⟩
  rw [← hr]
  have CK := Lib.hid (fun W => show Calls Tryz.prog 42 #[callV ⟨7, id, tick, val, handle, ⟨p0, p1, p2, p3, p4, p5⟩⟩] W fun e w' => e = .returned (.int .i64 0) ∧ Below W.heap.size W w' from h0 ▸ storeCheck_any ⟨7, id, tick, val, handle, ⟨p0, p1, p2, p3, p4, p5⟩⟩ W hx)
  have HST := Lib.hid (fun W (hW : Below w.heap.size w W) => h.avoidX (X := w.heap.size + 1) (Nat.le_succ _) hW)
  have hB1 : ∀ W, Below w.heap.size w W → w.heap.size + 1 < W.heap.size → ∀ b, W.heap.size ≤ b → B b ∧ b ≠ w.heap.size + 1 := fun W hW h1 b hb => ⟨hB b (Nat.le_trans hW.size hb), by omega⟩
  have HB1N := Lib.hid hB1
  have HNF := Lib.hid (show w.heap.size + 1 ∉ d.fp S from fun hq => by have := (h.fpLt _ hq).1; omega)
  have CM := Lib.hid (fun W (hW : Below w.heap.size w W) => stoMade_any W (h.below hW) (by omega))
  obtain ⟨pe, hpe⟩ : ∃ pe : Int, packV id = .tuple #[.agg #[.int .u64 (keyK id).1, .int .u64 (keyK id).2], .int .i64 pe] := by
    unfold packV keyK
    cases idS id with
    | true => exact ⟨0, rfl⟩
    | false => exact ⟨2, rfl⟩
  have CP := Lib.hid (fun W => show Calls Tryz.prog 81 #[.string id] W fun e w' => e = .returned (.tuple #[.agg #[.int .u64 (keyK id).1, .int .u64 (keyK id).2], .int .i64 pe]) ∧ Below W.heap.size W w' from hpe ▸ pack_any id W hid)
  have hkok := keyK_ok id
  have hrr : r = (wd, readW wd id) := by
    rw [hr]
    unfold doW
    rw [if_neg (by rw [h0]; simp)]
    simp only [show ¬ (7 : Int) = 1 by decide, show ¬ (7 : Int) = 2 by decide, show ¬ (7 : Int) = 3 by decide, show ¬ (7 : Int) = 4 by decide, show ¬ (7 : Int) = 5 by decide, show ¬ (7 : Int) = 6 by decide, if_true, if_false]
  have CI := Lib.hid (fun W (hW : Below w.heap.size w W) => stoLast_any W (h.below hW) hl hst hh hroom.h2 (keyK id) hkok)
  obtain ⟨rp, hrp⟩ : ∃ rp, rp = readK wd (keyK id) := ⟨_, rfl⟩
  rw [← hrp] at CI
  have hrr2 : r = (wd, rp) := by rw [hrr, hrp]; rfl
  obtain ⟨e0, e1, e2, ⟨s0, s1, s2, s3, s4⟩, ⟨a0, a1, a2, a3, a4⟩⟩ := rp
  have HRR := Lib.hid hrr2
  have HSTN := Lib.hid (fun W (hW : Below w.heap.size w W) => (h.avoidX (X := w.heap.size + 1) (Nat.le_succ _) hW).mono (Nat.le_succ n))
  unfold repV repC at CI
  dsimp only at CI
  have CH := Lib.hid (fun W (hW : Below w.heap.size w W) => show Calls Tryz.prog 30 #[.pointer (some ⟨S, 0, none⟩), .agg #[.int .u64 (keyK id).1, .int .u64 (keyK id).2]] W fun e w' => e = .returned (.int .i64 (i : Nat)) ∧ Below W.heap.size W w' from hri ▸ stoHome_any W (h.below hW) (by omega) hl (by omega) (keyK id) hkok)
  have CS := Lib.hid (fun W (hW : Below w.heap.size w W) => stoStripe_any W (h.below hW) i s hs (by omega))
  generalize keyK id = k at *
  clear h hc hi hh ht hx h0 hri hs hR hsk hr hpe hB hB1 hst hl hid hroom hbd hrr hrr2 hrp
  unfold callV
  go_enter Tryz.func28, Tryz.ntmps28
  go_wp2_with (first
    | (go_at_call 42
       refine calls_named ?_
       intro W1 hW1
       have HB1 := Lib.hid (show Below w.heap.size w W1 by rw [hW1]; exact balloc (balloc (Below.refl _ _) _) _)
       have HX0 := Lib.hid (show W1.heap[w.heap.size]? = some (.cells #[.int .i64 7, .string id, .int .i64 tick, .int .i64 val, .int .i64 handle, .int .i64 p0, .int .i64 p1, .int .i64 p2, .int .i64 p3, .int .i64 p4, .int .i64 p5] 37 (0, 0)) by rw [hW1]; exact box_old _ _ _)
       have HX1 := Lib.hid (show W1.heap[w.heap.size + 1]? = some (.cells zR.toArray 46 (0, 0)) by rw [hW1]; exact box_new _ _ _)
       clear hW1
       refine (CK.out W1).mono ?_
       rintro e w2 ⟨rfl, hb2⟩
       have HB2 := Lib.hid (bthen HB1.out hb2)
       have HX02 := Lib.hid ((hb2.block _ (Array.getElem?_eq_some_iff.1 HX0.out).1).trans HX0.out)
       have HX12 := Lib.hid ((hb2.block _ (Array.getElem?_eq_some_iff.1 HX1.out).1).trans HX1.out)
       clear hb2)
    | (go_at_call 80
       refine (CM.out _ HB2.out).mono ?_
       rintro e w3 ⟨rfl, rfl⟩
       obtain ⟨b1, b2, b3⟩ := box_cells (Below.refl _ _) HX02.out)
    | (go_at_call 81
       refine (CP.out _).mono ?_
       rintro e w4 ⟨rfl, hb4⟩
       have HB4 := Lib.hid (bthen HB2.out hb4)
       have HX04 := Lib.hid ((hb4.block _ (Array.getElem?_eq_some_iff.1 HX02.out).1).trans HX02.out)
       have HX14 := Lib.hid ((hb4.block _ (Array.getElem?_eq_some_iff.1 HX12.out).1).trans HX12.out)
       clear hb4 b1 b2 b3)
    | (go_at_call 30
       refine calls_named ?_
       intro W5 hW5
       have hb5 : Below w4.heap.size w4 W5 := by rw [hW5]; exact balloc (Below.refl _ _) _
       have HK5 := Lib.hid (show W5.heap[w4.heap.size]? = some (.cells #[.int .u64 k.1, .int .u64 k.2] 74 (0, 0)) by rw [hW5]; exact heap_alloc_new _ _)
       have HB5 := Lib.hid (bthen HB4.out hb5)
       have HX05 := Lib.hid ((hb5.block _ (Array.getElem?_eq_some_iff.1 HX04.out).1).trans HX04.out)
       have HX15 := Lib.hid ((hb5.block _ (Array.getElem?_eq_some_iff.1 HX14.out).1).trans HX14.out)
       clear hW5 hb5
       refine (CH.out W5 HB5.out).mono ?_
       rintro e w6 ⟨rfl, hb6⟩
       have HB6 := Lib.hid (bthen HB5.out hb6)
       have HX06 := Lib.hid ((hb6.block _ (Array.getElem?_eq_some_iff.1 HX05.out).1).trans HX05.out)
       have HX16 := Lib.hid ((hb6.block _ (Array.getElem?_eq_some_iff.1 HX15.out).1).trans HX15.out)
       have HK6 := Lib.hid ((hb6.block _ (Array.getElem?_eq_some_iff.1 HK5.out).1).trans HK5.out)
       clear hb6)
    | (go_at_call 32
       refine (CS.out _ HB6.out).mono ?_
       rintro e w7 ⟨rfl, rfl⟩
       obtain ⟨b1, b2, b3⟩ := box_cells (Below.refl _ _) HX06.out
       obtain ⟨k1, k2, k3⟩ := box_cells (Below.refl _ _) HK6.out
       clear CS)
    | (go_at_call 87
       refine (CI.out _ HB6.out).mono ?_
       rintro e w8 ⟨rfl, hb8⟩
       have HD := Lib.hid (HSTN.out _ (bthen HB6.out hb8))
       have HU := Lib.hid (Upd.of_below (bthen HB6.out hb8) (d.fp S))
       have HX8 := Lib.hid ((hb8.block _ (Array.getElem?_eq_some_iff.1 HX16.out).1).trans HX16.out)
       obtain ⟨y1, y2, y3⟩ := box_cells (Below.refl _ _) HX8.out
       unfold zR at y1
       clear hb8 b1 b2 b3 k1 k2 k3))
  refine post_named ?_
  intro W9 hW9
  have hW9' : W9 = stor w8 (w.heap.size + 1) 0 (repC ⟨e0, e1, e2, ⟨s0, s1, s2, s3, s4⟩, ⟨a0, a1, a2, a3, a4⟩⟩) := hW9
  obtain ⟨t1, t2, t3, t4⟩ := stor_at HX8.out (repC ⟨e0, e1, e2, ⟨s0, s1, s2, s3, s4⟩, ⟨a0, a1, a2, a3, a4⟩⟩) rfl W9 hW9'
  obtain ⟨a9, a8, a7⟩ := box_cells (Below.refl _ _) t1
  clear hW9 hW9'
  exact bodyPost_ret (v := repV ⟨e0, e1, e2, ⟨s0, s1, s2, s3, s4⟩, ⟨a0, a1, a2, a3, a4⟩⟩) (by simp [results, Tryz.results28, go_sem, a9, repV, repC, repF, st0, adv0]) rfl (by rw [HRR.out]; exact sto_endX (Nat.le_succ _) HD.out HU.out t2 t3 t4)

set_option maxRecDepth 100000 in
set_option maxHeartbeats 4000000 in
theorem stoDo_4b (w : World) (h : StoreAt B w S c rs rh n wd d) (hB : ∀ b, w.heap.size ≤ b → B b) (hc : CfgOk c rs rh) (hi : WdOk c rs rh n wd) (hh : HomeOk c wd) (ht : (allW wd).length ≤ 40) (hn : n ≤ 100) (x : CallD) (hx : x.ok) (h0 : chkC x = 0) (hk : x.kind = 4) (hf : findT (tabW wd) x.handle ≠ 0) :
    Calls Tryz.prog 28 #[.pointer (some ⟨S, 0, none⟩), callV x] w (StoSays B w S c rs rh (n + 1) (d.fp S) (repV (doW c rs rh wd x).2) (doW c rs rh wd x).1) := by
  obtain ⟨kind, id, tick, val, handle, ⟨p0, p1, p2, p3, p4, p5⟩⟩ := x
  dsimp only at hk hf
  subst hk
  have hst : okSt c.st = true := by have := hc.cfg; unfold cfgB at this; simp only [Bool.and_eq_true] at this; exact this.1
  have hbd := okSt_bd _ hst
  have hl : (d.sts.length : Int) = c.st := by rw [h.len]; exact hi.len
  have hroom := hc.room
  have hid : id.size ≤ maxLen := hx.2.1
  obtain ⟨i, s, R, hri, hs, hR, hsk⟩ := h.home hl hst (keyK id)
  obtain ⟨r, hr⟩ : ∃ r, r = doW c rs rh wd ⟨4, id, tick, val, handle, ⟨p0, p1, p2, p3, p4, p5⟩⟩ := ⟨_, rfl⟩
  rw [← hr]
  have CK := Lib.hid (fun W => show Calls Tryz.prog 42 #[callV ⟨4, id, tick, val, handle, ⟨p0, p1, p2, p3, p4, p5⟩⟩] W fun e w' => e = .returned (.int .i64 0) ∧ Below W.heap.size W w' from h0 ▸ storeCheck_any ⟨4, id, tick, val, handle, ⟨p0, p1, p2, p3, p4, p5⟩⟩ W hx)
  have HST := Lib.hid (fun W (hW : Below w.heap.size w W) => h.avoidX (X := w.heap.size + 1) (Nat.le_succ _) hW)
  have hB1 : ∀ W, Below w.heap.size w W → w.heap.size + 1 < W.heap.size → ∀ b, W.heap.size ≤ b → B b ∧ b ≠ w.heap.size + 1 := fun W hW h1 b hb => ⟨hB b (Nat.le_trans hW.size hb), by omega⟩
  have HB1N := Lib.hid hB1
  have HNF := Lib.hid (show w.heap.size + 1 ∉ d.fp S from fun hq => by have := (h.fpLt _ hq).1; omega)
  have CM := Lib.hid (fun W (hW : Below w.heap.size w W) => stoMade_any W (h.below hW) (by omega))
  obtain ⟨pe, hpe⟩ : ∃ pe : Int, packV id = .tuple #[.agg #[.int .u64 (keyK id).1, .int .u64 (keyK id).2], .int .i64 pe] := by
    unfold packV keyK
    cases idS id with
    | true => exact ⟨0, rfl⟩
    | false => exact ⟨2, rfl⟩
  have CP := Lib.hid (fun W => show Calls Tryz.prog 81 #[.string id] W fun e w' => e = .returned (.tuple #[.agg #[.int .u64 (keyK id).1, .int .u64 (keyK id).2], .int .i64 pe]) ∧ Below W.heap.size W w' from hpe ▸ pack_any id W hid)
  have hkok := keyK_ok id
  have hrr : r = freeW wd handle := by
    rw [hr]
    unfold doW
    rw [if_neg (by rw [h0]; simp)]
    simp only [show ¬ (4 : Int) = 1 by decide, show ¬ (4 : Int) = 2 by decide, show ¬ (4 : Int) = 3 by decide, if_true, if_false]
  have CI := Lib.hid (fun W (hW : Below w.heap.size w W) => stoFree_bad W (h.below hW) (by omega) (by have := hi.cuts; omega) (fun q hq => (hi.cep q hq).1) handle hf)
  have HSTN := Lib.hid (fun W (hW : Below w.heap.size w W) => (h.avoidX (X := w.heap.size + 1) (Nat.le_succ _) hW).mono (Nat.le_succ n))
  have hrr2 : r = (wd, repF (findT (tabW wd) handle)) := by rw [hrr]; unfold freeW; rw [if_pos hf]
  generalize findT (tabW wd) handle = er at *
  have HRR := Lib.hid hrr2
  have CH := Lib.hid (fun W (hW : Below w.heap.size w W) => show Calls Tryz.prog 30 #[.pointer (some ⟨S, 0, none⟩), .agg #[.int .u64 (keyK id).1, .int .u64 (keyK id).2]] W fun e w' => e = .returned (.int .i64 (i : Nat)) ∧ Below W.heap.size W w' from hri ▸ stoHome_any W (h.below hW) (by omega) hl (by omega) (keyK id) hkok)
  have CS := Lib.hid (fun W (hW : Below w.heap.size w W) => stoStripe_any W (h.below hW) i s hs (by omega))
  generalize keyK id = k at *
  clear h hc hi hh ht hx h0 hri hs hR hsk hr hpe hB hB1 hst hl hid hroom hbd hrr hrr2 hf
  unfold callV
  go_enter Tryz.func28, Tryz.ntmps28
  go_wp2_with (first
    | (go_at_call 42
       refine calls_named ?_
       intro W1 hW1
       have HB1 := Lib.hid (show Below w.heap.size w W1 by rw [hW1]; exact balloc (balloc (Below.refl _ _) _) _)
       have HX0 := Lib.hid (show W1.heap[w.heap.size]? = some (.cells #[.int .i64 4, .string id, .int .i64 tick, .int .i64 val, .int .i64 handle, .int .i64 p0, .int .i64 p1, .int .i64 p2, .int .i64 p3, .int .i64 p4, .int .i64 p5] 37 (0, 0)) by rw [hW1]; exact box_old _ _ _)
       have HX1 := Lib.hid (show W1.heap[w.heap.size + 1]? = some (.cells zR.toArray 46 (0, 0)) by rw [hW1]; exact box_new _ _ _)
       clear hW1
       refine (CK.out W1).mono ?_
       rintro e w2 ⟨rfl, hb2⟩
       have HB2 := Lib.hid (bthen HB1.out hb2)
       have HX02 := Lib.hid ((hb2.block _ (Array.getElem?_eq_some_iff.1 HX0.out).1).trans HX0.out)
       have HX12 := Lib.hid ((hb2.block _ (Array.getElem?_eq_some_iff.1 HX1.out).1).trans HX1.out)
       clear hb2)
    | (go_at_call 80
       refine (CM.out _ HB2.out).mono ?_
       rintro e w3 ⟨rfl, rfl⟩
       obtain ⟨b1, b2, b3⟩ := box_cells (Below.refl _ _) HX02.out)
    | (go_at_call 81
       refine (CP.out _).mono ?_
       rintro e w4 ⟨rfl, hb4⟩
       have HB4 := Lib.hid (bthen HB2.out hb4)
       have HX04 := Lib.hid ((hb4.block _ (Array.getElem?_eq_some_iff.1 HX02.out).1).trans HX02.out)
       have HX14 := Lib.hid ((hb4.block _ (Array.getElem?_eq_some_iff.1 HX12.out).1).trans HX12.out)
       clear hb4 b1 b2 b3)
    | (go_at_call 30
       refine calls_named ?_
       intro W5 hW5
       have hb5 : Below w4.heap.size w4 W5 := by rw [hW5]; exact balloc (Below.refl _ _) _
       have HK5 := Lib.hid (show W5.heap[w4.heap.size]? = some (.cells #[.int .u64 k.1, .int .u64 k.2] 74 (0, 0)) by rw [hW5]; exact heap_alloc_new _ _)
       have HB5 := Lib.hid (bthen HB4.out hb5)
       have HX05 := Lib.hid ((hb5.block _ (Array.getElem?_eq_some_iff.1 HX04.out).1).trans HX04.out)
       have HX15 := Lib.hid ((hb5.block _ (Array.getElem?_eq_some_iff.1 HX14.out).1).trans HX14.out)
       clear hW5 hb5
       refine (CH.out W5 HB5.out).mono ?_
       rintro e w6 ⟨rfl, hb6⟩
       have HB6 := Lib.hid (bthen HB5.out hb6)
       have HX06 := Lib.hid ((hb6.block _ (Array.getElem?_eq_some_iff.1 HX05.out).1).trans HX05.out)
       have HX16 := Lib.hid ((hb6.block _ (Array.getElem?_eq_some_iff.1 HX15.out).1).trans HX15.out)
       have HK6 := Lib.hid ((hb6.block _ (Array.getElem?_eq_some_iff.1 HK5.out).1).trans HK5.out)
       clear hb6)
    | (go_at_call 32
       refine (CS.out _ HB6.out).mono ?_
       rintro e w7 ⟨rfl, rfl⟩
       obtain ⟨b1, b2, b3⟩ := box_cells (Below.refl _ _) HX06.out
       obtain ⟨k1, k2, k3⟩ := box_cells (Below.refl _ _) HK6.out
       clear CS)
    | (go_at_call 36
       refine (CI.out _ HB6.out).mono ?_
       rintro e w8 ⟨rfl, rfl⟩
       have HD := Lib.hid (HSTN.out _ HB6.out)
       have HU := Lib.hid (Upd.of_below HB6.out (d.fp S))
       have HX8 := Lib.hid HX16.out
       obtain ⟨y1, y2, y3⟩ := box_cells (Below.refl _ _) HX8.out
       unfold zR at y1
       clear b1 b2 b3 k1 k2 k3))
  refine post_named ?_
  intro W9 hW9
  have hW9' : W9 = stor w8 (w.heap.size + 1) 0 (repC (repF er)) := hW9
  obtain ⟨t1, t2, t3, t4⟩ := stor_at HX8.out (repC (repF er)) rfl W9 hW9'
  obtain ⟨a9, a8, a7⟩ := box_cells (Below.refl _ _) t1
  clear hW9 hW9'
  exact bodyPost_ret (v := repV (repF er)) (by simp [results, Tryz.results28, go_sem, a9, repV, repC, repF, st0, adv0]) rfl (by rw [HRR.out]; exact sto_endX (Nat.le_succ _) HD.out HU.out t2 t3 t4)

set_option maxRecDepth 100000 in
set_option maxHeartbeats 4000000 in
theorem stoDo_4 (w : World) (h : StoreAt B w S c rs rh n wd d) (hB : ∀ b, w.heap.size ≤ b → B b) (hc : CfgOk c rs rh) (hi : WdOk c rs rh n wd) (hh : HomeOk c wd) (ht : (allW wd).length ≤ 40) (hn : n ≤ 100) (x : CallD) (hx : x.ok) (h0 : chkC x = 0) (hk : x.kind = 4) (hf : findT (tabW wd) x.handle = 0) :
    Calls Tryz.prog 28 #[.pointer (some ⟨S, 0, none⟩), callV x] w (StoSays B w S c rs rh (n + 1) (d.fp S) (repV (doW c rs rh wd x).2) (doW c rs rh wd x).1) := by
  obtain ⟨kind, id, tick, val, handle, ⟨p0, p1, p2, p3, p4, p5⟩⟩ := x
  dsimp only at hk hf
  subst hk
  have hst : okSt c.st = true := by have := hc.cfg; unfold cfgB at this; simp only [Bool.and_eq_true] at this; exact this.1
  have hbd := okSt_bd _ hst
  have hl : (d.sts.length : Int) = c.st := by rw [h.len]; exact hi.len
  have hroom := hc.room
  have hid : id.size ≤ maxLen := hx.2.1
  obtain ⟨i, s, R, hri, hs, hR, hsk⟩ := h.home hl hst (keyK id)
  obtain ⟨r, hr⟩ : ∃ r, r = doW c rs rh wd ⟨4, id, tick, val, handle, ⟨p0, p1, p2, p3, p4, p5⟩⟩ := ⟨_, rfl⟩
  rw [← hr]
  have CK := Lib.hid (fun W => show Calls Tryz.prog 42 #[callV ⟨4, id, tick, val, handle, ⟨p0, p1, p2, p3, p4, p5⟩⟩] W fun e w' => e = .returned (.int .i64 0) ∧ Below W.heap.size W w' from h0 ▸ storeCheck_any ⟨4, id, tick, val, handle, ⟨p0, p1, p2, p3, p4, p5⟩⟩ W hx)
  have HST := Lib.hid (fun W (hW : Below w.heap.size w W) => h.avoidX (X := w.heap.size + 1) (Nat.le_succ _) hW)
  have hB1 : ∀ W, Below w.heap.size w W → w.heap.size + 1 < W.heap.size → ∀ b, W.heap.size ≤ b → B b ∧ b ≠ w.heap.size + 1 := fun W hW h1 b hb => ⟨hB b (Nat.le_trans hW.size hb), by omega⟩
  have HB1N := Lib.hid hB1
  have HNF := Lib.hid (show w.heap.size + 1 ∉ d.fp S from fun hq => by have := (h.fpLt _ hq).1; omega)
  have CM := Lib.hid (fun W (hW : Below w.heap.size w W) => stoMade_any W (h.below hW) (by omega))
  obtain ⟨pe, hpe⟩ : ∃ pe : Int, packV id = .tuple #[.agg #[.int .u64 (keyK id).1, .int .u64 (keyK id).2], .int .i64 pe] := by
    unfold packV keyK
    cases idS id with
    | true => exact ⟨0, rfl⟩
    | false => exact ⟨2, rfl⟩
  have CP := Lib.hid (fun W => show Calls Tryz.prog 81 #[.string id] W fun e w' => e = .returned (.tuple #[.agg #[.int .u64 (keyK id).1, .int .u64 (keyK id).2], .int .i64 pe]) ∧ Below W.heap.size W w' from hpe ▸ pack_any id W hid)
  have hkok := keyK_ok id
  have hrr : r = freeW wd handle := by
    rw [hr]
    unfold doW
    rw [if_neg (by rw [h0]; simp)]
    simp only [show ¬ (4 : Int) = 1 by decide, show ¬ (4 : Int) = 2 by decide, show ¬ (4 : Int) = 3 by decide, if_true, if_false]
  obtain ⟨j, hj, rfl⟩ : ∃ j : Nat, j < wd.cuts.length ∧ handle = ((j + 1 : Nat) : Int) := by
    have htl : (tabW wd).length = wd.cuts.length := by simp [tabW]
    have h1 : ¬ (handle < 1 ∨ ((tabW wd).length : Nat) < handle) := fun h9 => by rw [findT_out h9] at hf; cases hf
    exact ⟨handle.toNat - 1, by omega, by omega⟩
  have hcl : wd.cuts.length ≤ 900000 := by have := hi.cuts; omega
  have CI := Lib.hid (fun W (hW : Below w.heap.size w W) => stoFree_ok W (h.avoidX (X := w.heap.size + 1) (Nat.le_succ _) hW) (by omega) hcl (fun q hq => (hi.cep q hq).1) j hj hf)
  have CF := Lib.hid (fun W (hW : Below w.heap.size w W) o ho => ((h.avoidX (X := w.heap.size + 1) (Nat.le_succ _) hW).mono (Nat.le_succ n)).free (o := o) hcl (fun q hq => (hi.cep q hq).1) j hj hf ho)
  have hrr2 : r = ({ wd with cuts := wd.cuts.set j ⟨0, [], true⟩ }, repF 0) := by
    rw [hrr]
    unfold freeW
    rw [if_neg (by rw [hf]; simp), show ((j + 1 : Nat) : Int).toNat - 1 = j by omega]
  generalize ((j + 1 : Nat) : Int) = handle at *
  have HRR := Lib.hid hrr2
  have CH := Lib.hid (fun W (hW : Below w.heap.size w W) => show Calls Tryz.prog 30 #[.pointer (some ⟨S, 0, none⟩), .agg #[.int .u64 (keyK id).1, .int .u64 (keyK id).2]] W fun e w' => e = .returned (.int .i64 (i : Nat)) ∧ Below W.heap.size W w' from hri ▸ stoHome_any W (h.below hW) (by omega) hl (by omega) (keyK id) hkok)
  have CS := Lib.hid (fun W (hW : Below w.heap.size w W) => stoStripe_any W (h.below hW) i s hs (by omega))
  generalize keyK id = k at *
  clear h hc hi hh ht hx h0 hri hs hR hsk hr hpe hB hB1 hst hl hid hroom hbd hrr hrr2 hf hj hcl
  unfold callV
  go_enter Tryz.func28, Tryz.ntmps28
  go_wp2_with (first
    | (go_at_call 42
       refine calls_named ?_
       intro W1 hW1
       have HB1 := Lib.hid (show Below w.heap.size w W1 by rw [hW1]; exact balloc (balloc (Below.refl _ _) _) _)
       have HX0 := Lib.hid (show W1.heap[w.heap.size]? = some (.cells #[.int .i64 4, .string id, .int .i64 tick, .int .i64 val, .int .i64 handle, .int .i64 p0, .int .i64 p1, .int .i64 p2, .int .i64 p3, .int .i64 p4, .int .i64 p5] 37 (0, 0)) by rw [hW1]; exact box_old _ _ _)
       have HX1 := Lib.hid (show W1.heap[w.heap.size + 1]? = some (.cells zR.toArray 46 (0, 0)) by rw [hW1]; exact box_new _ _ _)
       clear hW1
       refine (CK.out W1).mono ?_
       rintro e w2 ⟨rfl, hb2⟩
       have HB2 := Lib.hid (bthen HB1.out hb2)
       have HX02 := Lib.hid ((hb2.block _ (Array.getElem?_eq_some_iff.1 HX0.out).1).trans HX0.out)
       have HX12 := Lib.hid ((hb2.block _ (Array.getElem?_eq_some_iff.1 HX1.out).1).trans HX1.out)
       clear hb2)
    | (go_at_call 80
       refine (CM.out _ HB2.out).mono ?_
       rintro e w3 ⟨rfl, rfl⟩
       obtain ⟨b1, b2, b3⟩ := box_cells (Below.refl _ _) HX02.out)
    | (go_at_call 81
       refine (CP.out _).mono ?_
       rintro e w4 ⟨rfl, hb4⟩
       have HB4 := Lib.hid (bthen HB2.out hb4)
       have HX04 := Lib.hid ((hb4.block _ (Array.getElem?_eq_some_iff.1 HX02.out).1).trans HX02.out)
       have HX14 := Lib.hid ((hb4.block _ (Array.getElem?_eq_some_iff.1 HX12.out).1).trans HX12.out)
       clear hb4 b1 b2 b3)
    | (go_at_call 30
       refine calls_named ?_
       intro W5 hW5
       have hb5 : Below w4.heap.size w4 W5 := by rw [hW5]; exact balloc (Below.refl _ _) _
       have HK5 := Lib.hid (show W5.heap[w4.heap.size]? = some (.cells #[.int .u64 k.1, .int .u64 k.2] 74 (0, 0)) by rw [hW5]; exact heap_alloc_new _ _)
       have HB5 := Lib.hid (bthen HB4.out hb5)
       have HX05 := Lib.hid ((hb5.block _ (Array.getElem?_eq_some_iff.1 HX04.out).1).trans HX04.out)
       have HX15 := Lib.hid ((hb5.block _ (Array.getElem?_eq_some_iff.1 HX14.out).1).trans HX14.out)
       clear hW5 hb5
       refine (CH.out W5 HB5.out).mono ?_
       rintro e w6 ⟨rfl, hb6⟩
       have HB6 := Lib.hid (bthen HB5.out hb6)
       have HX06 := Lib.hid ((hb6.block _ (Array.getElem?_eq_some_iff.1 HX05.out).1).trans HX05.out)
       have HX16 := Lib.hid ((hb6.block _ (Array.getElem?_eq_some_iff.1 HX15.out).1).trans HX15.out)
       have HK6 := Lib.hid ((hb6.block _ (Array.getElem?_eq_some_iff.1 HK5.out).1).trans HK5.out)
       clear hb6)
    | (go_at_call 32
       refine (CS.out _ HB6.out).mono ?_
       rintro e w7 ⟨rfl, rfl⟩
       obtain ⟨b1, b2, b3⟩ := box_cells (Below.refl _ _) HX06.out
       obtain ⟨k1, k2, k3⟩ := box_cells (Below.refl _ _) HK6.out
       clear CS)
    | (go_at_call 36
       refine (CI.out _ HB6.out).mono ?_
       rintro e w8 ⟨rfl, o, hw8, ho⟩
       rw [hw8] at ho
       have hfr := CF.out _ HB6.out o ho
       rw [← hw8] at hfr
       have HD := Lib.hid hfr.1
       have HU := Lib.hid ((Upd.of_below HB6.out (d.fp S)).trans hfr.2)
       have HX8 := Lib.hid (upd_at hfr.2 HNF.out HX16.out)
       obtain ⟨y1, y2, y3⟩ := box_cells (Below.refl _ _) HX8.out
       unfold zR at y1
       clear hfr ho hw8 b1 b2 b3 k1 k2 k3))
  refine post_named ?_
  intro W9 hW9
  have hW9' : W9 = stor w8 (w.heap.size + 1) 0 (repC (repF 0)) := hW9
  obtain ⟨t1, t2, t3, t4⟩ := stor_at HX8.out (repC (repF 0)) rfl W9 hW9'
  obtain ⟨a9, a8, a7⟩ := box_cells (Below.refl _ _) t1
  clear hW9 hW9'
  exact bodyPost_ret (v := repV (repF 0)) (by simp [results, Tryz.results28, go_sem, a9, repV, repC, repF, st0, adv0]) rfl (by rw [HRR.out]; exact sto_endX (Nat.le_succ _) HD.out HU.out t2 t3 t4)

set_option maxRecDepth 100000 in
set_option maxHeartbeats 4000000 in
theorem stoDo_8b (w : World) (h : StoreAt B w S c rs rh n wd d) (hB : ∀ b, w.heap.size ≤ b → B b) (hc : CfgOk c rs rh) (hi : WdOk c rs rh n wd) (hh : HomeOk c wd) (ht : (allW wd).length ≤ 40) (hn : n ≤ 100) (x : CallD) (hx : x.ok) (h0 : chkC x = 0) (hk : x.kind = 8) (hf : wd.over = true) :
    Calls Tryz.prog 28 #[.pointer (some ⟨S, 0, none⟩), callV x] w (StoSays B w S c rs rh (n + 1) (d.fp S) (repV (doW c rs rh wd x).2) (doW c rs rh wd x).1) := by
  obtain ⟨kind, id, tick, val, handle, ⟨p0, p1, p2, p3, p4, p5⟩⟩ := x
  dsimp only at hk
  subst hk
  have hst : okSt c.st = true := by have := hc.cfg; unfold cfgB at this; simp only [Bool.and_eq_true] at this; exact this.1
  have hbd := okSt_bd _ hst
  have hl : (d.sts.length : Int) = c.st := by rw [h.len]; exact hi.len
  have hroom := hc.room
  have hid : id.size ≤ maxLen := hx.2.1
  obtain ⟨i, s, R, hri, hs, hR, hsk⟩ := h.home hl hst (keyK id)
  obtain ⟨r, hr⟩ : ∃ r, r = doW c rs rh wd ⟨8, id, tick, val, handle, ⟨p0, p1, p2, p3, p4, p5⟩⟩ := ⟨_, rfl⟩
  rw [← hr]
  have CK := Lib.hid (fun W => show Calls Tryz.prog 42 #[callV ⟨8, id, tick, val, handle, ⟨p0, p1, p2, p3, p4, p5⟩⟩] W fun e w' => e = .returned (.int .i64 0) ∧ Below W.heap.size W w' from h0 ▸ storeCheck_any ⟨8, id, tick, val, handle, ⟨p0, p1, p2, p3, p4, p5⟩⟩ W hx)
  have HST := Lib.hid (fun W (hW : Below w.heap.size w W) => h.avoidX (X := w.heap.size + 1) (Nat.le_succ _) hW)
  have hB1 : ∀ W, Below w.heap.size w W → w.heap.size + 1 < W.heap.size → ∀ b, W.heap.size ≤ b → B b ∧ b ≠ w.heap.size + 1 := fun W hW h1 b hb => ⟨hB b (Nat.le_trans hW.size hb), by omega⟩
  have HB1N := Lib.hid hB1
  have HNF := Lib.hid (show w.heap.size + 1 ∉ d.fp S from fun hq => by have := (h.fpLt _ hq).1; omega)
  have CM := Lib.hid (fun W (hW : Below w.heap.size w W) => stoMade_any W (h.below hW) (by omega))
  obtain ⟨pe, hpe⟩ : ∃ pe : Int, packV id = .tuple #[.agg #[.int .u64 (keyK id).1, .int .u64 (keyK id).2], .int .i64 pe] := by
    unfold packV keyK
    cases idS id with
    | true => exact ⟨0, rfl⟩
    | false => exact ⟨2, rfl⟩
  have CP := Lib.hid (fun W => show Calls Tryz.prog 81 #[.string id] W fun e w' => e = .returned (.tuple #[.agg #[.int .u64 (keyK id).1, .int .u64 (keyK id).2], .int .i64 pe]) ∧ Below W.heap.size W w' from hpe ▸ pack_any id W hid)
  have hkok := keyK_ok id
  have hrr : r = (wd, repF 9) := by
    rw [hr]
    unfold doW
    rw [if_neg (by rw [h0]; simp)]
    simp only [show ¬ (8 : Int) = 1 by decide, show ¬ (8 : Int) = 2 by decide, show ¬ (8 : Int) = 3 by decide, show ¬ (8 : Int) = 4 by decide, show ¬ (8 : Int) = 5 by decide, show ¬ (8 : Int) = 6 by decide, show ¬ (8 : Int) = 7 by decide, if_true, if_false, hf]
  have CI := Lib.hid (fun W (hW : Below w.heap.size w W) => stoShut_over W (h.below hW) (by omega) hf)
  have HSTN := Lib.hid (fun W (hW : Below w.heap.size w W) => (h.avoidX (X := w.heap.size + 1) (Nat.le_succ _) hW).mono (Nat.le_succ n))
  have HRR := Lib.hid hrr
  have CH := Lib.hid (fun W (hW : Below w.heap.size w W) => show Calls Tryz.prog 30 #[.pointer (some ⟨S, 0, none⟩), .agg #[.int .u64 (keyK id).1, .int .u64 (keyK id).2]] W fun e w' => e = .returned (.int .i64 (i : Nat)) ∧ Below W.heap.size W w' from hri ▸ stoHome_any W (h.below hW) (by omega) hl (by omega) (keyK id) hkok)
  have CS := Lib.hid (fun W (hW : Below w.heap.size w W) => stoStripe_any W (h.below hW) i s hs (by omega))
  generalize keyK id = k at *
  clear h hc hi hh ht hx h0 hri hs hR hsk hr hpe hB hB1 hst hl hid hroom hbd hrr hf
  unfold callV
  go_enter Tryz.func28, Tryz.ntmps28
  go_wp2_with (first
    | (go_at_call 42
       refine calls_named ?_
       intro W1 hW1
       have HB1 := Lib.hid (show Below w.heap.size w W1 by rw [hW1]; exact balloc (balloc (Below.refl _ _) _) _)
       have HX0 := Lib.hid (show W1.heap[w.heap.size]? = some (.cells #[.int .i64 8, .string id, .int .i64 tick, .int .i64 val, .int .i64 handle, .int .i64 p0, .int .i64 p1, .int .i64 p2, .int .i64 p3, .int .i64 p4, .int .i64 p5] 37 (0, 0)) by rw [hW1]; exact box_old _ _ _)
       have HX1 := Lib.hid (show W1.heap[w.heap.size + 1]? = some (.cells zR.toArray 46 (0, 0)) by rw [hW1]; exact box_new _ _ _)
       clear hW1
       refine (CK.out W1).mono ?_
       rintro e w2 ⟨rfl, hb2⟩
       have HB2 := Lib.hid (bthen HB1.out hb2)
       have HX02 := Lib.hid ((hb2.block _ (Array.getElem?_eq_some_iff.1 HX0.out).1).trans HX0.out)
       have HX12 := Lib.hid ((hb2.block _ (Array.getElem?_eq_some_iff.1 HX1.out).1).trans HX1.out)
       clear hb2)
    | (go_at_call 80
       refine (CM.out _ HB2.out).mono ?_
       rintro e w3 ⟨rfl, rfl⟩
       obtain ⟨b1, b2, b3⟩ := box_cells (Below.refl _ _) HX02.out)
    | (go_at_call 81
       refine (CP.out _).mono ?_
       rintro e w4 ⟨rfl, hb4⟩
       have HB4 := Lib.hid (bthen HB2.out hb4)
       have HX04 := Lib.hid ((hb4.block _ (Array.getElem?_eq_some_iff.1 HX02.out).1).trans HX02.out)
       have HX14 := Lib.hid ((hb4.block _ (Array.getElem?_eq_some_iff.1 HX12.out).1).trans HX12.out)
       clear hb4 b1 b2 b3)
    | (go_at_call 30
       refine calls_named ?_
       intro W5 hW5
       have hb5 : Below w4.heap.size w4 W5 := by rw [hW5]; exact balloc (Below.refl _ _) _
       have HK5 := Lib.hid (show W5.heap[w4.heap.size]? = some (.cells #[.int .u64 k.1, .int .u64 k.2] 74 (0, 0)) by rw [hW5]; exact heap_alloc_new _ _)
       have HB5 := Lib.hid (bthen HB4.out hb5)
       have HX05 := Lib.hid ((hb5.block _ (Array.getElem?_eq_some_iff.1 HX04.out).1).trans HX04.out)
       have HX15 := Lib.hid ((hb5.block _ (Array.getElem?_eq_some_iff.1 HX14.out).1).trans HX14.out)
       clear hW5 hb5
       refine (CH.out W5 HB5.out).mono ?_
       rintro e w6 ⟨rfl, hb6⟩
       have HB6 := Lib.hid (bthen HB5.out hb6)
       have HX06 := Lib.hid ((hb6.block _ (Array.getElem?_eq_some_iff.1 HX05.out).1).trans HX05.out)
       have HX16 := Lib.hid ((hb6.block _ (Array.getElem?_eq_some_iff.1 HX15.out).1).trans HX15.out)
       have HK6 := Lib.hid ((hb6.block _ (Array.getElem?_eq_some_iff.1 HK5.out).1).trans HK5.out)
       clear hb6)
    | (go_at_call 32
       refine (CS.out _ HB6.out).mono ?_
       rintro e w7 ⟨rfl, rfl⟩
       obtain ⟨b1, b2, b3⟩ := box_cells (Below.refl _ _) HX06.out
       obtain ⟨k1, k2, k3⟩ := box_cells (Below.refl _ _) HK6.out
       clear CS)
    | (go_at_call 37
       refine (CI.out _ HB6.out).mono ?_
       rintro e w8 ⟨rfl, rfl⟩
       have HD := Lib.hid (HSTN.out _ HB6.out)
       have HU := Lib.hid (Upd.of_below HB6.out (d.fp S))
       have HX8 := Lib.hid HX16.out
       obtain ⟨y1, y2, y3⟩ := box_cells (Below.refl _ _) HX8.out
       unfold zR at y1
       clear b1 b2 b3 k1 k2 k3))
  refine post_named ?_
  intro W9 hW9
  have hW9' : W9 = stor w8 (w.heap.size + 1) 0 (repC (repF 9)) := hW9
  obtain ⟨t1, t2, t3, t4⟩ := stor_at HX8.out (repC (repF 9)) rfl W9 hW9'
  obtain ⟨a9, a8, a7⟩ := box_cells (Below.refl _ _) t1
  clear hW9 hW9'
  exact bodyPost_ret (v := repV (repF 9)) (by simp [results, Tryz.results28, go_sem, a9, repV, repC, repF, st0, adv0]) rfl (by rw [HRR.out]; exact sto_endX (Nat.le_succ _) HD.out HU.out t2 t3 t4)

set_option maxRecDepth 100000 in
set_option maxHeartbeats 4000000 in
theorem stoDo_8 (w : World) (h : StoreAt B w S c rs rh n wd d) (hB : ∀ b, w.heap.size ≤ b → B b) (hc : CfgOk c rs rh) (hi : WdOk c rs rh n wd) (hh : HomeOk c wd) (ht : (allW wd).length ≤ 40) (hn : n ≤ 100) (x : CallD) (hx : x.ok) (h0 : chkC x = 0) (hk : x.kind = 8) (hf : wd.over = false) :
    Calls Tryz.prog 28 #[.pointer (some ⟨S, 0, none⟩), callV x] w (StoSays B w S c rs rh (n + 1) (d.fp S) (repV (doW c rs rh wd x).2) (doW c rs rh wd x).1) := by
  obtain ⟨kind, id, tick, val, handle, ⟨p0, p1, p2, p3, p4, p5⟩⟩ := x
  dsimp only at hk
  subst hk
  have hst : okSt c.st = true := by have := hc.cfg; unfold cfgB at this; simp only [Bool.and_eq_true] at this; exact this.1
  have hbd := okSt_bd _ hst
  have hl : (d.sts.length : Int) = c.st := by rw [h.len]; exact hi.len
  have hroom := hc.room
  have hid : id.size ≤ maxLen := hx.2.1
  obtain ⟨i, s, R, hri, hs, hR, hsk⟩ := h.home hl hst (keyK id)
  obtain ⟨r, hr⟩ : ∃ r, r = doW c rs rh wd ⟨8, id, tick, val, handle, ⟨p0, p1, p2, p3, p4, p5⟩⟩ := ⟨_, rfl⟩
  rw [← hr]
  have CK := Lib.hid (fun W => show Calls Tryz.prog 42 #[callV ⟨8, id, tick, val, handle, ⟨p0, p1, p2, p3, p4, p5⟩⟩] W fun e w' => e = .returned (.int .i64 0) ∧ Below W.heap.size W w' from h0 ▸ storeCheck_any ⟨8, id, tick, val, handle, ⟨p0, p1, p2, p3, p4, p5⟩⟩ W hx)
  have HST := Lib.hid (fun W (hW : Below w.heap.size w W) => h.avoidX (X := w.heap.size + 1) (Nat.le_succ _) hW)
  have hB1 : ∀ W, Below w.heap.size w W → w.heap.size + 1 < W.heap.size → ∀ b, W.heap.size ≤ b → B b ∧ b ≠ w.heap.size + 1 := fun W hW h1 b hb => ⟨hB b (Nat.le_trans hW.size hb), by omega⟩
  have HB1N := Lib.hid hB1
  have HNF := Lib.hid (show w.heap.size + 1 ∉ d.fp S from fun hq => by have := (h.fpLt _ hq).1; omega)
  have CM := Lib.hid (fun W (hW : Below w.heap.size w W) => stoMade_any W (h.below hW) (by omega))
  obtain ⟨pe, hpe⟩ : ∃ pe : Int, packV id = .tuple #[.agg #[.int .u64 (keyK id).1, .int .u64 (keyK id).2], .int .i64 pe] := by
    unfold packV keyK
    cases idS id with
    | true => exact ⟨0, rfl⟩
    | false => exact ⟨2, rfl⟩
  have CP := Lib.hid (fun W => show Calls Tryz.prog 81 #[.string id] W fun e w' => e = .returned (.tuple #[.agg #[.int .u64 (keyK id).1, .int .u64 (keyK id).2], .int .i64 pe]) ∧ Below W.heap.size W w' from hpe ▸ pack_any id W hid)
  have hkok := keyK_ok id
  have hrr : r = ({ wd with over := true }, repF 0) := by
    rw [hr]
    unfold doW
    rw [if_neg (by rw [h0]; simp)]
    simp only [show ¬ (8 : Int) = 1 by decide, show ¬ (8 : Int) = 2 by decide, show ¬ (8 : Int) = 3 by decide, show ¬ (8 : Int) = 4 by decide, show ¬ (8 : Int) = 5 by decide, show ¬ (8 : Int) = 6 by decide, show ¬ (8 : Int) = 7 by decide, if_true, if_false, hf, Bool.false_eq_true]
  have CI := Lib.hid (fun W (hW : Below w.heap.size w W) => stoShut_ok W ((h.avoidX (X := w.heap.size + 1) (Nat.le_succ _) hW).mono (Nat.le_succ n)) (by omega) hf)
  have HRR := Lib.hid hrr
  have CH := Lib.hid (fun W (hW : Below w.heap.size w W) => show Calls Tryz.prog 30 #[.pointer (some ⟨S, 0, none⟩), .agg #[.int .u64 (keyK id).1, .int .u64 (keyK id).2]] W fun e w' => e = .returned (.int .i64 (i : Nat)) ∧ Below W.heap.size W w' from hri ▸ stoHome_any W (h.below hW) (by omega) hl (by omega) (keyK id) hkok)
  have CS := Lib.hid (fun W (hW : Below w.heap.size w W) => stoStripe_any W (h.below hW) i s hs (by omega))
  generalize keyK id = k at *
  clear h hc hi hh ht hx h0 hri hs hR hsk hr hpe hB hB1 hst hl hid hroom hbd hrr hf
  unfold callV
  go_enter Tryz.func28, Tryz.ntmps28
  go_wp2_with (first
    | (go_at_call 42
       refine calls_named ?_
       intro W1 hW1
       have HB1 := Lib.hid (show Below w.heap.size w W1 by rw [hW1]; exact balloc (balloc (Below.refl _ _) _) _)
       have HX0 := Lib.hid (show W1.heap[w.heap.size]? = some (.cells #[.int .i64 8, .string id, .int .i64 tick, .int .i64 val, .int .i64 handle, .int .i64 p0, .int .i64 p1, .int .i64 p2, .int .i64 p3, .int .i64 p4, .int .i64 p5] 37 (0, 0)) by rw [hW1]; exact box_old _ _ _)
       have HX1 := Lib.hid (show W1.heap[w.heap.size + 1]? = some (.cells zR.toArray 46 (0, 0)) by rw [hW1]; exact box_new _ _ _)
       clear hW1
       refine (CK.out W1).mono ?_
       rintro e w2 ⟨rfl, hb2⟩
       have HB2 := Lib.hid (bthen HB1.out hb2)
       have HX02 := Lib.hid ((hb2.block _ (Array.getElem?_eq_some_iff.1 HX0.out).1).trans HX0.out)
       have HX12 := Lib.hid ((hb2.block _ (Array.getElem?_eq_some_iff.1 HX1.out).1).trans HX1.out)
       clear hb2)
    | (go_at_call 80
       refine (CM.out _ HB2.out).mono ?_
       rintro e w3 ⟨rfl, rfl⟩
       obtain ⟨b1, b2, b3⟩ := box_cells (Below.refl _ _) HX02.out)
    | (go_at_call 81
       refine (CP.out _).mono ?_
       rintro e w4 ⟨rfl, hb4⟩
       have HB4 := Lib.hid (bthen HB2.out hb4)
       have HX04 := Lib.hid ((hb4.block _ (Array.getElem?_eq_some_iff.1 HX02.out).1).trans HX02.out)
       have HX14 := Lib.hid ((hb4.block _ (Array.getElem?_eq_some_iff.1 HX12.out).1).trans HX12.out)
       clear hb4 b1 b2 b3)
    | (go_at_call 30
       refine calls_named ?_
       intro W5 hW5
       have hb5 : Below w4.heap.size w4 W5 := by rw [hW5]; exact balloc (Below.refl _ _) _
       have HK5 := Lib.hid (show W5.heap[w4.heap.size]? = some (.cells #[.int .u64 k.1, .int .u64 k.2] 74 (0, 0)) by rw [hW5]; exact heap_alloc_new _ _)
       have HB5 := Lib.hid (bthen HB4.out hb5)
       have HX05 := Lib.hid ((hb5.block _ (Array.getElem?_eq_some_iff.1 HX04.out).1).trans HX04.out)
       have HX15 := Lib.hid ((hb5.block _ (Array.getElem?_eq_some_iff.1 HX14.out).1).trans HX14.out)
       clear hW5 hb5
       refine (CH.out W5 HB5.out).mono ?_
       rintro e w6 ⟨rfl, hb6⟩
       have HB6 := Lib.hid (bthen HB5.out hb6)
       have HX06 := Lib.hid ((hb6.block _ (Array.getElem?_eq_some_iff.1 HX05.out).1).trans HX05.out)
       have HX16 := Lib.hid ((hb6.block _ (Array.getElem?_eq_some_iff.1 HX15.out).1).trans HX15.out)
       have HK6 := Lib.hid ((hb6.block _ (Array.getElem?_eq_some_iff.1 HK5.out).1).trans HK5.out)
       clear hb6)
    | (go_at_call 32
       refine (CS.out _ HB6.out).mono ?_
       rintro e w7 ⟨rfl, rfl⟩
       obtain ⟨b1, b2, b3⟩ := box_cells (Below.refl _ _) HX06.out
       obtain ⟨k1, k2, k3⟩ := box_cells (Below.refl _ _) HK6.out
       clear CS)
    | (go_at_call 37
       refine (CI.out _ HB6.out).mono ?_
       rintro e w8 ⟨rfl, hd', hu'⟩
       have HD := Lib.hid hd'
       have HU := Lib.hid ((Upd.of_below HB6.out (d.fp S)).trans hu')
       have HX8 := Lib.hid (upd_at hu' HNF.out HX16.out)
       obtain ⟨y1, y2, y3⟩ := box_cells (Below.refl _ _) HX8.out
       unfold zR at y1
       clear hd' hu' b1 b2 b3 k1 k2 k3))
  refine post_named ?_
  intro W9 hW9
  have hW9' : W9 = stor w8 (w.heap.size + 1) 0 (repC (repF 0)) := hW9
  obtain ⟨t1, t2, t3, t4⟩ := stor_at HX8.out (repC (repF 0)) rfl W9 hW9'
  obtain ⟨a9, a8, a7⟩ := box_cells (Below.refl _ _) t1
  clear hW9 hW9'
  exact bodyPost_ret (v := repV (repF 0)) (by simp [results, Tryz.results28, go_sem, a9, repV, repC, repF, st0, adv0]) rfl (by rw [HRR.out]; exact sto_endX (Nat.le_succ _) HD.out HU.out t2 t3 t4)

end
end

section
set_option linter.unusedSimpArgs false
set_option linter.unusedVariables false
open Go.RowKit Go.Lib Go.Sort
open Go.ChangeMaps (setBlock)

section
variable {B : Nat → Prop} {S : Nat} {c : Cfg} {rs rh n : Nat} {wd : Wd} {d : StoD}
set_option maxRecDepth 100000 in
set_option maxHeartbeats 4000000 in
theorem stoDo_2 (w : World) (h : StoreAt B w S c rs rh n wd d) (hB : ∀ b, w.heap.size ≤ b → B b) (hc : CfgOk c rs rh) (hi : WdOk c rs rh n wd) (hh : HomeOk c wd) (ht : (allW wd).length ≤ 40) (hn : n ≤ 100) (x : CallD) (hx : x.ok) (h0 : chkC x = 0) (hk : x.kind = 2) :
    Calls Tryz.prog 28 #[.pointer (some ⟨S, 0, none⟩), callV x] w (StoSays B w S c rs rh (n + 1) (d.fp S) (repV (doW c rs rh wd x).2) (doW c rs rh wd x).1) := by
  obtain ⟨kind, id, tick, val, handle, ⟨p0, p1, p2, p3, p4, p5⟩⟩ := x
  dsimp only at hk
  subst hk
  have hst : okSt c.st = true := by have := hc.cfg; unfold cfgB at this; simp only [Bool.and_eq_true] at this; exact this.1
  have hbd := okSt_bd _ hst
  have hl : (d.sts.length : Int) = c.st := by rw [h.len]; exact hi.len
  have hroom := hc.room
  have hid : id.size ≤ maxLen := hx.2.1
  obtain ⟨i, s, R, hri, hs, hR, hsk⟩ := h.home hl hst (keyK id)
  obtain ⟨r, hr⟩ : ∃ r, r = doW c rs rh wd ⟨2, id, tick, val, handle, ⟨p0, p1, p2, p3, p4, p5⟩⟩ := ⟨_, rfl⟩
  rw [← hr]
  have CK := Lib.hid (fun W => show Calls Tryz.prog 42 #[callV ⟨2, id, tick, val, handle, ⟨p0, p1, p2, p3, p4, p5⟩⟩] W fun e w' => e = .returned (.int .i64 0) ∧ Below W.heap.size W w' from h0 ▸ storeCheck_any ⟨2, id, tick, val, handle, ⟨p0, p1, p2, p3, p4, p5⟩⟩ W hx)
  have HST := Lib.hid (fun W (hW : Below w.heap.size w W) => h.avoidX (X := w.heap.size + 1) (Nat.le_succ _) hW)
  have hB1 : ∀ W, Below w.heap.size w W → w.heap.size + 1 < W.heap.size → ∀ b, W.heap.size ≤ b → B b ∧ b ≠ w.heap.size + 1 := fun W hW h1 b hb => ⟨hB b (Nat.le_trans hW.size hb), by omega⟩
  have HB1N := Lib.hid hB1
  have HNF := Lib.hid (show w.heap.size + 1 ∉ d.fp S from fun hq => by have := (h.fpLt _ hq).1; omega)
  have CM := Lib.hid (fun W (hW : Below w.heap.size w W) => stoMade_any W (h.below hW) (by omega))
  obtain ⟨pe, hpe⟩ : ∃ pe : Int, packV id = .tuple #[.agg #[.int .u64 (keyK id).1, .int .u64 (keyK id).2], .int .i64 pe] := by
    unfold packV keyK
    cases idS id with
    | true => exact ⟨0, rfl⟩
    | false => exact ⟨2, rfl⟩
  have CP := Lib.hid (fun W => show Calls Tryz.prog 81 #[.string id] W fun e w' => e = .returned (.tuple #[.agg #[.int .u64 (keyK id).1, .int .u64 (keyK id).2], .int .i64 pe]) ∧ Below W.heap.size W w' from hpe ▸ pack_any id W hid)
  have hkok := keyK_ok id
  have hrr : r = (trimW wd tick, repF 0) := by
    rw [hr]
    unfold doW
    rw [if_neg (by rw [h0]; simp)]
    simp only [show ¬ (2 : Int) = 1 by decide, if_true, if_false]
  have CT := Lib.hid (fun W (t : St) (Rt : List Itm) (ht' : StrOk W c rs rh n t Rt) => strim_any t.T t.M c t.ver t.es rs rh tick W ht'.at_ hroom.r2 hroom.h2 (by have := ht'.grown.len; rw [ab_len] at this; omega) (by have := ht'.ver_; omega) (fun p hp => by have := ht'.grown.vers p hp; omega) (smp_small ht'.at_ hroom.r2))
  have HSL := Lib.hid (show d.sts.length = wd.st.length from h.len)
  have HN := Lib.hid hn
  have HBB := Lib.hid (show ∀ b, w.heap.size ≤ b → b ≠ w.heap.size + 1 → B b ∧ b ≠ w.heap.size + 1 from fun b hb h1 => ⟨hB b hb, h1⟩)
  have hl64 : d.sts.length ≤ 64 := by omega
  have HRR := Lib.hid hrr
  have CH := Lib.hid (fun W (hW : Below w.heap.size w W) => show Calls Tryz.prog 30 #[.pointer (some ⟨S, 0, none⟩), .agg #[.int .u64 (keyK id).1, .int .u64 (keyK id).2]] W fun e w' => e = .returned (.int .i64 (i : Nat)) ∧ Below W.heap.size W w' from hri ▸ stoHome_any W (h.below hW) (by omega) hl (by omega) (keyK id) hkok)
  have CS := Lib.hid (fun W (hW : Below w.heap.size w W) => stoStripe_any W (h.below hW) i s hs (by omega))
  generalize keyK id = k at *
  clear h hc hi hh ht hx h0 hri hs hR hsk hr hpe hB hB1 hst hl hid hroom hbd hrr
  unfold callV
  go_enter Tryz.func28, Tryz.ntmps28
  go_wp2_with (first
    | (go_at_call 42
       refine calls_named ?_
       intro W1 hW1
       have HB1 := Lib.hid (show Below w.heap.size w W1 by rw [hW1]; exact balloc (balloc (Below.refl _ _) _) _)
       have HX0 := Lib.hid (show W1.heap[w.heap.size]? = some (.cells #[.int .i64 2, .string id, .int .i64 tick, .int .i64 val, .int .i64 handle, .int .i64 p0, .int .i64 p1, .int .i64 p2, .int .i64 p3, .int .i64 p4, .int .i64 p5] 37 (0, 0)) by rw [hW1]; exact box_old _ _ _)
       have HX1 := Lib.hid (show W1.heap[w.heap.size + 1]? = some (.cells zR.toArray 46 (0, 0)) by rw [hW1]; exact box_new _ _ _)
       clear hW1
       refine (CK.out W1).mono ?_
       rintro e w2 ⟨rfl, hb2⟩
       have HB2 := Lib.hid (bthen HB1.out hb2)
       have HX02 := Lib.hid ((hb2.block _ (Array.getElem?_eq_some_iff.1 HX0.out).1).trans HX0.out)
       have HX12 := Lib.hid ((hb2.block _ (Array.getElem?_eq_some_iff.1 HX1.out).1).trans HX1.out)
       clear hb2)
    | (go_at_call 80
       refine (CM.out _ HB2.out).mono ?_
       rintro e w3 ⟨rfl, rfl⟩
       obtain ⟨b1, b2, b3⟩ := box_cells (Below.refl _ _) HX02.out)
    | (go_at_call 81
       refine (CP.out _).mono ?_
       rintro e w4 ⟨rfl, hb4⟩
       have HB4 := Lib.hid (bthen HB2.out hb4)
       have HX04 := Lib.hid ((hb4.block _ (Array.getElem?_eq_some_iff.1 HX02.out).1).trans HX02.out)
       have HX14 := Lib.hid ((hb4.block _ (Array.getElem?_eq_some_iff.1 HX12.out).1).trans HX12.out)
       clear hb4 b1 b2 b3)
    | (go_at_call 30
       refine calls_named ?_
       intro W5 hW5
       have hb5 : Below w4.heap.size w4 W5 := by rw [hW5]; exact balloc (Below.refl _ _) _
       have HK5 := Lib.hid (show W5.heap[w4.heap.size]? = some (.cells #[.int .u64 k.1, .int .u64 k.2] 74 (0, 0)) by rw [hW5]; exact heap_alloc_new _ _)
       have HB5 := Lib.hid (bthen HB4.out hb5)
       have HX05 := Lib.hid ((hb5.block _ (Array.getElem?_eq_some_iff.1 HX04.out).1).trans HX04.out)
       have HX15 := Lib.hid ((hb5.block _ (Array.getElem?_eq_some_iff.1 HX14.out).1).trans HX14.out)
       clear hW5 hb5
       refine (CH.out W5 HB5.out).mono ?_
       rintro e w6 ⟨rfl, hb6⟩
       have HB6 := Lib.hid (bthen HB5.out hb6)
       have HX06 := Lib.hid ((hb6.block _ (Array.getElem?_eq_some_iff.1 HX05.out).1).trans HX05.out)
       have HX16 := Lib.hid ((hb6.block _ (Array.getElem?_eq_some_iff.1 HX15.out).1).trans HX15.out)
       have HK6 := Lib.hid ((hb6.block _ (Array.getElem?_eq_some_iff.1 HK5.out).1).trans HK5.out)
       clear hb6)
    | (go_at_call 32
       refine (CS.out _ HB6.out).mono ?_
       rintro e w7 ⟨rfl, rfl⟩
       obtain ⟨b1, b2, b3⟩ := box_cells (Below.refl _ _) HX06.out
       obtain ⟨k1, k2, k3⟩ := box_cells (Below.refl _ _) HK6.out
       obtain ⟨q1, q2, q3⟩ := box_cells (Below.refl _ _) (HST.out _ HB6.out).cell))
  clear CS CH
  have HT0 := Lib.hid (TrimSt.start (HST.out _ HB6.out) tick)
  have HZ0 := Lib.hid (show w.heap.size ∉ d.fp S from fun hq => by have := ((HST.out _ (Below.refl _ _)).fpLt _ hq).1; omega)
  have HLT := Lib.hid (show w.heap.size + 1 < w7.heap.size from (Array.getElem?_eq_some_iff.1 HX16.out).1)
  clear q1 q2 q3 b1 b2 b3 k1 k2 k3
  go_loopg [51] d.sts.length (fun g s51 wr => ∃ (j : Nat) (dk : StoD), j ≤ d.sts.length ∧ d.sts.length - j ≤ g ∧ s51 = .int .i64 j ∧ TrimSt (fun b => B b ∧ b ≠ w.heap.size + 1) w7 wr S c rs rh n wd d dk tick j)
  case atStart => exact ⟨0, d, Nat.zero_le _, Nat.le_refl _, rfl, HT0.out⟩
  case round =>
    obtain ⟨j, dk, hj, hg, rfl, hat⟩ := hrel
    rename World => wr
    have HA := Lib.hid hat
    have hle := hat.eA
    clear hat
    by_cases hlt : j < d.sts.length
    · have hkl : j < dk.sts.length := by omega
      have hs := List.getElem?_eq_getElem hkl
      have z1 : (j : Int) < (d.sts.length : Int) := by omega
      have z2 : (0 : Int) ≤ (j : Int) := by omega
      obtain ⟨bb, o, hA, hbw, hcc⟩ := HA.out.at_.row.1.at_ hkl
      injection hA with hA
      injection hA with e1 e2
      subst e1 e2
      have c1 : wr.cell? ⟨d.A, j, none⟩ = some (.pointer (some ⟨(dk.sts[j]).T, 0, none⟩)) := by
        have := hcc 0 _ rfl
        rw [hle.1] at this
        simpa using this
      have HS := Lib.hid hs
      clear hcc hbw hs
      generalize dk.sts[j] = t at c1 HS
      have hjw : j < wd.st.length := by have := HSL.out; omega
      have htk := HA.out.rest j t _ (Nat.le_refl j) HS.out (List.getElem?_eq_getElem hjw)
      have CI := Lib.hid (CT.out wr t _ htk)
      obtain ⟨b1, b2, b3⟩ := box_cells (Below.refl _ _) (upd_at HA.out.up HZ0.out HX06.out)
      clear htk
      go_wp2_with (first
        | (go_at_call 83
           refine CI.out.mono ?_
           rintro e w8 ⟨es', rfl, h1, h2, h3, h4⟩
           obtain ⟨dk', h5⟩ := HA.out.step (fun b hb => HBB.out b (Nat.le_trans HB6.out.size hb) (by have := HLT.out; omega)) HN.out HS.out h1 h2 h3 h4
           have HA5 := Lib.hid h5
           clear h1 h2 h3 h4 h5))
      go_roundg (d.sts.length - (j + 1))
      case measure => omega
      case rel => exact ⟨j + 1, dk', hlt, Nat.le_refl _, by go_num, HA5.out⟩
    · obtain rfl : j = d.sts.length := by omega
      have z1 : ¬ (d.sts.length : Int) < (d.sts.length : Int) := by omega
      have HX8 := Lib.hid (upd_at HA.out.up HNF.out HX16.out)
      obtain ⟨y1, y2, y3⟩ := box_cells (Below.refl _ _) HX8.out
      unfold zR at y1
      have hfin := HA.out.at_
      rw [HSL.out, trimTo_all] at hfin
      have HD := Lib.hid hfin
      have HU := Lib.hid ((Upd.of_below HB6.out (d.fp S)).trans HA.out.up)
      clear hfin
      go_wp2
      refine post_named ?_
      intro W9 hW9
      have hW9' : W9 = stor wr (w.heap.size + 1) 0 (repC (repF 0)) := hW9
      obtain ⟨t1, t2, t3, t4⟩ := stor_at HX8.out (repC (repF 0)) rfl W9 hW9'
      obtain ⟨a9, a8, a7⟩ := box_cells (Below.refl _ _) t1
      clear hW9 hW9'
      exact bodyPost_ret (v := repV (repF 0)) (by simp [results, Tryz.results28, go_sem, a9, repV, repC, repF, st0, adv0]) rfl (by rw [HRR.out]; exact sto_endX (Nat.le_succ _) HD.out HU.out t2 t3 t4)


set_option maxRecDepth 100000 in
set_option maxHeartbeats 4000000 in
theorem stoDo_bad (w : World) (h : StoreAt B w S c rs rh n wd d) (x : CallD) (hx : x.ok) (h0 : chkC x ≠ 0) :
    Calls Tryz.prog 28 #[.pointer (some ⟨S, 0, none⟩), callV x] w (StoSays B w S c rs rh (n + 1) (d.fp S) (repV (doW c rs rh wd x).2) (doW c rs rh wd x).1) := by
  obtain ⟨r, hr⟩ : ∃ r, r = doW c rs rh wd x := ⟨_, rfl⟩
  rw [← hr]
  have hrr : r = (wd, repF (chkC x)) := by rw [hr]; unfold doW; rw [if_pos h0]
  have CK := Lib.hid (fun W => storeCheck_any x W hx)
  have HST := Lib.hid (fun W (hW : Below w.heap.size w W) => (h.avoidX (X := w.heap.size + 1) (Nat.le_succ _) hW).mono (Nat.le_succ n))
  generalize chkC x = er at *
  have z : ¬ er = 0 := h0
  have HRR := Lib.hid hrr
  obtain ⟨kind, id, tick, val, handle, ⟨p0, p1, p2, p3, p4, p5⟩⟩ := x
  clear h hr hrr h0 hx
  unfold callV at CK ⊢
  dsimp only at CK ⊢
  go_enter Tryz.func28, Tryz.ntmps28
  go_wp2_with (first
    | (go_at_call 42
       refine calls_named ?_
       intro W1 hW1
       have HB1 := Lib.hid (show Below w.heap.size w W1 by rw [hW1]; exact balloc (balloc (Below.refl _ _) _) _)
       have HX1 := Lib.hid (show W1.heap[w.heap.size + 1]? = some (.cells zR.toArray 46 (0, 0)) by rw [hW1]; exact box_new _ _ _)
       clear hW1
       refine (CK.out W1).mono ?_
       rintro e w8 ⟨rfl, hb2⟩
       have HB2 := Lib.hid (bthen HB1.out hb2)
       have HX8 := Lib.hid ((hb2.block _ (Array.getElem?_eq_some_iff.1 HX1.out).1).trans HX1.out)
       obtain ⟨y1, y2, y3⟩ := box_cells (Below.refl _ _) HX8.out
       unfold zR at y1
       clear hb2))
  refine post_named ?_
  intro W9 hW9
  have hW9' : W9 = stor w8 (w.heap.size + 1) 0 (repC (repF er)) := hW9
  obtain ⟨t1, t2, t3, t4⟩ := stor_at HX8.out (repC (repF er)) rfl W9 hW9'
  obtain ⟨a9, a8, a7⟩ := box_cells (Below.refl _ _) t1
  clear hW9 hW9'
  exact bodyPost_ret (v := repV (repF er)) (by simp [results, Tryz.results28, go_sem, a9, repV, repC, repF, st0, adv0]) rfl (by rw [HRR.out]; exact sto_endX (Nat.le_succ _) (HST.out _ HB2.out) (Upd.of_below HB2.out _) t2 t3 t4)


/-- What a store answers, and what it is behind it. -/
theorem stoDo_any (w : World) (h : StoreAt B w S c rs rh n wd d) (hB : ∀ b, w.heap.size ≤ b → B b) (hc : CfgOk c rs rh) (hi : WdOk c rs rh n wd) (hh : HomeOk c wd) (ht : (allW wd).length ≤ 40) (hn : n ≤ 100) (x : CallD) (hx : x.ok) :
    Calls Tryz.prog 28 #[.pointer (some ⟨S, 0, none⟩), callV x] w (StoSays B w S c rs rh (n + 1) (d.fp S) (repV (doW c rs rh wd x).2) (doW c rs rh wd x).1) := by
  by_cases h0 : chkC x = 0
  · rcases chk_kinds x with hk | hk | hk | hk | hk | hk | hk | hk | hk
    · exact stoDo_1 w h hB hc hi hh ht hn x hx h0 hk
    · exact stoDo_2 w h hB hc hi hh ht hn x hx h0 hk
    · exact stoDo_3 w h hB hc hi hh ht hn x hx h0 hk
    · by_cases hf : findT (tabW wd) x.handle = 0
      · exact stoDo_4 w h hB hc hi hh ht hn x hx h0 hk hf
      · exact stoDo_4b w h hB hc hi hh ht hn x hx h0 hk hf
    · exact stoDo_5 w h hB hc hi hh ht hn x hx h0 hk
    · exact stoDo_6 w h hB hc hi hh ht hn x hx h0 hk
    · exact stoDo_7 w h hB hc hi hh ht hn x hx h0 hk
    · cases hf : wd.over with
      | true => exact stoDo_8b w h hB hc hi hh ht hn x hx h0 hk hf
      | false => exact stoDo_8 w h hB hc hi hh ht hn x hx h0 hk hf
    · exfalso
      unfold chkC at h0
      rw [if_pos hk] at h0
      cases h0
  · exact stoDo_bad w h x hx h0
end
end

section
set_option linter.unusedSimpArgs false
set_option linter.unusedVariables false
open Go.RowKit Go.Lib Go.Sort

/-- A block that is not the store's. -/
structure Kept (w : World) (fp : List Nat) (X : Nat) (o : Obj) : Prop where
  at_ : w.heap[X]? = some o
  off : X ∉ fp
theorem Kept.lt {w : World} {fp : List Nat} {X : Nat} {o : Obj} (h : Kept w fp X o) : X < w.heap.size := (Array.getElem?_eq_some_iff.1 h.at_).1
theorem Kept.upd {w w' : World} {fp fp' : List Nat} {X : Nat} {o : Obj} (h : Kept w fp X o) (hu : Upd w w' fp fp') : Kept w' fp' X o :=
  ⟨(hu.block X h.lt h.off).trans h.at_, fun hq => (hu.fresh X hq).elim h.off (fun h9 => by have := h.lt; omega)⟩
theorem Kept.below {w w' : World} {fp : List Nat} {X : Nat} {o : Obj} (h : Kept w fp X o) (hb : Below w.heap.size w w') : Kept w' fp X o := ⟨(hb.block X h.lt).trans h.at_, h.off⟩
/-- A store and its reference's world, and what stays so of them. -/
structure SW (B : Nat → Prop) (w : World) (S : Nat) (c : Cfg) (rs rh n : Nat) (wd : Wd) (d : StoD) : Prop where
  at_ : StoreAt B w S c rs rh n wd d
  ok : WdOk c rs rh n wd
  home : HomeOk c wd
  tot : (allW wd).length ≤ n
theorem SW.below {B : Nat → Prop} {w w' : World} {S : Nat} {c : Cfg} {rs rh n : Nat} {wd : Wd} {d : StoD} (h : SW B w S c rs rh n wd d) (hb : Below w.heap.size w w') : SW B w' S c rs rh n wd d := ⟨h.at_.below hb, h.ok, h.home, h.tot⟩
def SWSays (B : Nat → Prop) (w : World) (S : Nat) (c : Cfg) (rs rh n : Nat) (fp : List Nat) (v : Value) (wd : Wd) (e : Ending) (w' : World) : Prop := ∃ d', e = .returned v ∧ SW B w' S c rs rh n wd d' ∧ Upd w w' fp (d'.fp S)
theorem sw_do {B : Nat → Prop} {w : World} {S : Nat} {c : Cfg} {rs rh n : Nat} {wd : Wd} {d : StoD} (h : SW B w S c rs rh n wd d) (hB : ∀ b, w.heap.size ≤ b → B b) (hc : CfgOk c rs rh) (hn : n ≤ 40) (x : CallD) (hx : x.ok) :
    Calls Tryz.prog 28 #[.pointer (some ⟨S, 0, none⟩), callV x] w (SWSays B w S c rs rh (n + 1) (d.fp S) (repV (doW c rs rh wd x).2) (doW c rs rh wd x).1) := by
  have hst : okSt c.st = true := by have := hc.cfg; unfold cfgB at this; simp only [Bool.and_eq_true] at this; exact this.1
  have hbd := okSt_bd _ hst
  have hlo : c.lo ≤ 256 := by have := hc.cfg; unfold cfgB at this; simp only [Bool.and_eq_true, decide_eq_true_eq] at this; omega
  refine (stoDo_any w h.at_ hB hc h.ok h.home (by have := h.tot; omega) (by omega) x hx).mono ?_
  rintro e w' ⟨fp', rfl, ⟨d', hd', rfl⟩, hu⟩
  exact ⟨d', rfl, ⟨hd', doW_ok h.ok hbd.2 hlo hc.room.h1 hx, homeOk_do h.home hst h.ok.len, Nat.le_trans tot_do (by have := h.tot; omega)⟩, hu⟩
theorem sw_new {w : World} {c : Cfg} {rs rh : Nat} (hc : CfgOk c rs rh) : Calls Tryz.prog 27 #[cfgV c] w fun e w' => ∃ S d, e = .returned (.tuple #[.pointer (some ⟨S, 0, none⟩), .int .i64 0]) ∧ SW (fun b => w.heap.size ≤ b) w' S c rs rh 0 (newW c.st.toNat) d ∧ Below w.heap.size w w' := by
  have hst : okSt c.st = true := by have := hc.cfg; unfold cfgB at this; simp only [Bool.and_eq_true] at this; exact this.1
  have hbd := okSt_bd _ hst
  refine (stoNew_any c rs rh w hc).mono ?_
  rintro e w' ⟨S, d, rfl, h, hl, hb⟩
  have e9 : d.sts.length = c.st.toNat := by omega
  rw [e9] at h
  exact ⟨S, d, rfl, ⟨h, newW_ok c rs rh _ (by omega), homeOk_new c _, by rw [tot_new]; exact Nat.le_refl _⟩, hb⟩
theorem i64_small {n : Int} (h : 0 ≤ n ∧ n ≤ 100) : I64 n := by unfold I64; omega

def cA21 : Cfg := ⟨2, 4, 4, 2⟩
theorem cA21_ok : CfgOk cA21 4 2 := ⟨by decide, rfl, rfl, by unfold Cfg.ok I64 cA21; decide⟩
def xA1 : CallD := ⟨1, { data := #[97] }, 1, 5, 0, ⟨0, 0, 0, 0, 0, 0⟩⟩
theorem xA1_ok : xA1.ok := ⟨i64_small (by decide), by decide, i64_small (by decide), i64_small (by decide), i64_small (by decide), ⟨i64_small (by decide), i64_small (by decide), i64_small (by decide), i64_small (by decide), i64_small (by decide), i64_small (by decide)⟩⟩
def wA1 : Wd := (doW cA21 4 2 (newW 2) xA1).1
set_option maxRecDepth 100000 in
theorem rA1 : repV (doW cA21 4 2 (newW 2) xA1).2 = .agg #[.int .i64 0, .int .i64 0, .int .i64 0, .int .i64 0, .int .i64 0, .int .i64 0, .int .i64 0, .int .i64 0, .int .i64 0, .int .i64 0, .int .i64 0, .int .i64 0, .int .i64 0] := by kernel_rfl
def xA2 : CallD := ⟨3, { data := #[] }, 0, 0, 0, ⟨0, 0, 0, 0, 0, 0⟩⟩
theorem xA2_ok : xA2.ok := ⟨i64_small (by decide), by decide, i64_small (by decide), i64_small (by decide), i64_small (by decide), ⟨i64_small (by decide), i64_small (by decide), i64_small (by decide), i64_small (by decide), i64_small (by decide), i64_small (by decide)⟩⟩
def wA2 : Wd := (doW cA21 4 2 wA1 xA2).1
set_option maxRecDepth 100000 in
theorem rA2 : repV (doW cA21 4 2 wA1 xA2).2 = .agg #[.int .i64 0, .int .i64 1, .int .i64 1, .int .i64 0, .int .i64 0, .int .i64 0, .int .i64 0, .int .i64 0, .int .i64 0, .int .i64 0, .int .i64 0, .int .i64 0, .int .i64 0] := by kernel_rfl
def xA3 : CallD := ⟨1, { data := #[97] }, 2, 0, 0, ⟨0, 0, 0, 0, 0, 0⟩⟩
theorem xA3_ok : xA3.ok := ⟨i64_small (by decide), by decide, i64_small (by decide), i64_small (by decide), i64_small (by decide), ⟨i64_small (by decide), i64_small (by decide), i64_small (by decide), i64_small (by decide), i64_small (by decide), i64_small (by decide)⟩⟩
def wA3 : Wd := (doW cA21 4 2 wA2 xA3).1
set_option maxRecDepth 100000 in
theorem rA3 : repV (doW cA21 4 2 wA2 xA3).2 = .agg #[.int .i64 0, .int .i64 0, .int .i64 0, .int .i64 0, .int .i64 0, .int .i64 0, .int .i64 0, .int .i64 0, .int .i64 0, .int .i64 0, .int .i64 0, .int .i64 0, .int .i64 0] := by kernel_rfl
def xA4 : CallD := ⟨5, { data := #[97] }, 9, 9, 1, ⟨0, 0, 0, 0, 0, 0⟩⟩
theorem xA4_ok : xA4.ok := ⟨i64_small (by decide), by decide, i64_small (by decide), i64_small (by decide), i64_small (by decide), ⟨i64_small (by decide), i64_small (by decide), i64_small (by decide), i64_small (by decide), i64_small (by decide), i64_small (by decide)⟩⟩
def wA4 : Wd := (doW cA21 4 2 wA3 xA4).1
set_option maxRecDepth 100000 in
theorem rA4 : repV (doW cA21 4 2 wA3 xA4).2 = .agg #[.int .i64 0, .int .i64 1, .int .i64 0, .int .i64 1, .int .i64 5, .int .i64 5, .int .i64 5, .int .i64 5, .int .i64 0, .int .i64 0, .int .i64 0, .int .i64 0, .int .i64 0] := by kernel_rfl
def xA5 : CallD := ⟨4, { data := #[] }, 0, 0, 1, ⟨0, 0, 0, 0, 0, 0⟩⟩
theorem xA5_ok : xA5.ok := ⟨i64_small (by decide), by decide, i64_small (by decide), i64_small (by decide), i64_small (by decide), ⟨i64_small (by decide), i64_small (by decide), i64_small (by decide), i64_small (by decide), i64_small (by decide), i64_small (by decide)⟩⟩
def wA5 : Wd := (doW cA21 4 2 wA4 xA5).1
set_option maxRecDepth 100000 in
theorem rA5 : repV (doW cA21 4 2 wA4 xA5).2 = .agg #[.int .i64 0, .int .i64 0, .int .i64 0, .int .i64 0, .int .i64 0, .int .i64 0, .int .i64 0, .int .i64 0, .int .i64 0, .int .i64 0, .int .i64 0, .int .i64 0, .int .i64 0] := by kernel_rfl
def xA6 : CallD := ⟨5, { data := #[97] }, 0, 0, 1, ⟨0, 0, 0, 0, 0, 0⟩⟩
theorem xA6_ok : xA6.ok := ⟨i64_small (by decide), by decide, i64_small (by decide), i64_small (by decide), i64_small (by decide), ⟨i64_small (by decide), i64_small (by decide), i64_small (by decide), i64_small (by decide), i64_small (by decide), i64_small (by decide)⟩⟩
def wA6 : Wd := (doW cA21 4 2 wA5 xA6).1
set_option maxRecDepth 100000 in
theorem rA6 : repV (doW cA21 4 2 wA5 xA6).2 = .agg #[.int .i64 8, .int .i64 0, .int .i64 0, .int .i64 0, .int .i64 0, .int .i64 0, .int .i64 0, .int .i64 0, .int .i64 0, .int .i64 0, .int .i64 0, .int .i64 0, .int .i64 0] := by kernel_rfl
theorem dA1 {B : Nat → Prop} {w : World} {S : Nat} {d : StoD} (h : SW B w S cA21 4 2 0 (newW 2) d) (hB : ∀ b, w.heap.size ≤ b → B b) :
    Calls Tryz.prog 28 #[.pointer (some ⟨S, 0, none⟩), .agg #[.int .i64 1, .string { data := #[97] }, .int .i64 1, .int .i64 5, .int .i64 0, .int .i64 0, .int .i64 0, .int .i64 0, .int .i64 0, .int .i64 0, .int .i64 0]] w (SWSays B w S cA21 4 2 1 (d.fp S) (.agg #[.int .i64 0, .int .i64 0, .int .i64 0, .int .i64 0, .int .i64 0, .int .i64 0, .int .i64 0, .int .i64 0, .int .i64 0, .int .i64 0, .int .i64 0, .int .i64 0, .int .i64 0]) wA1) := by
  have := sw_do h hB cA21_ok (by decide) xA1 xA1_ok
  rw [rA1] at this
  exact this
theorem dA2 {B : Nat → Prop} {w : World} {S : Nat} {d : StoD} (h : SW B w S cA21 4 2 1 wA1 d) (hB : ∀ b, w.heap.size ≤ b → B b) :
    Calls Tryz.prog 28 #[.pointer (some ⟨S, 0, none⟩), .agg #[.int .i64 3, .string { data := #[] }, .int .i64 0, .int .i64 0, .int .i64 0, .int .i64 0, .int .i64 0, .int .i64 0, .int .i64 0, .int .i64 0, .int .i64 0]] w (SWSays B w S cA21 4 2 2 (d.fp S) (.agg #[.int .i64 0, .int .i64 1, .int .i64 1, .int .i64 0, .int .i64 0, .int .i64 0, .int .i64 0, .int .i64 0, .int .i64 0, .int .i64 0, .int .i64 0, .int .i64 0, .int .i64 0]) wA2) := by
  have := sw_do h hB cA21_ok (by decide) xA2 xA2_ok
  rw [rA2] at this
  exact this
theorem dA3 {B : Nat → Prop} {w : World} {S : Nat} {d : StoD} (h : SW B w S cA21 4 2 2 wA2 d) (hB : ∀ b, w.heap.size ≤ b → B b) :
    Calls Tryz.prog 28 #[.pointer (some ⟨S, 0, none⟩), .agg #[.int .i64 1, .string { data := #[97] }, .int .i64 2, .int .i64 0, .int .i64 0, .int .i64 0, .int .i64 0, .int .i64 0, .int .i64 0, .int .i64 0, .int .i64 0]] w (SWSays B w S cA21 4 2 3 (d.fp S) (.agg #[.int .i64 0, .int .i64 0, .int .i64 0, .int .i64 0, .int .i64 0, .int .i64 0, .int .i64 0, .int .i64 0, .int .i64 0, .int .i64 0, .int .i64 0, .int .i64 0, .int .i64 0]) wA3) := by
  have := sw_do h hB cA21_ok (by decide) xA3 xA3_ok
  rw [rA3] at this
  exact this
theorem dA4 {B : Nat → Prop} {w : World} {S : Nat} {d : StoD} (h : SW B w S cA21 4 2 3 wA3 d) (hB : ∀ b, w.heap.size ≤ b → B b) :
    Calls Tryz.prog 28 #[.pointer (some ⟨S, 0, none⟩), .agg #[.int .i64 5, .string { data := #[97] }, .int .i64 9, .int .i64 9, .int .i64 1, .int .i64 0, .int .i64 0, .int .i64 0, .int .i64 0, .int .i64 0, .int .i64 0]] w (SWSays B w S cA21 4 2 4 (d.fp S) (.agg #[.int .i64 0, .int .i64 1, .int .i64 0, .int .i64 1, .int .i64 5, .int .i64 5, .int .i64 5, .int .i64 5, .int .i64 0, .int .i64 0, .int .i64 0, .int .i64 0, .int .i64 0]) wA4) := by
  have := sw_do h hB cA21_ok (by decide) xA4 xA4_ok
  rw [rA4] at this
  exact this
theorem dA5 {B : Nat → Prop} {w : World} {S : Nat} {d : StoD} (h : SW B w S cA21 4 2 4 wA4 d) (hB : ∀ b, w.heap.size ≤ b → B b) :
    Calls Tryz.prog 28 #[.pointer (some ⟨S, 0, none⟩), .agg #[.int .i64 4, .string { data := #[] }, .int .i64 0, .int .i64 0, .int .i64 1, .int .i64 0, .int .i64 0, .int .i64 0, .int .i64 0, .int .i64 0, .int .i64 0]] w (SWSays B w S cA21 4 2 5 (d.fp S) (.agg #[.int .i64 0, .int .i64 0, .int .i64 0, .int .i64 0, .int .i64 0, .int .i64 0, .int .i64 0, .int .i64 0, .int .i64 0, .int .i64 0, .int .i64 0, .int .i64 0, .int .i64 0]) wA5) := by
  have := sw_do h hB cA21_ok (by decide) xA5 xA5_ok
  rw [rA5] at this
  exact this
theorem dA6 {B : Nat → Prop} {w : World} {S : Nat} {d : StoD} (h : SW B w S cA21 4 2 5 wA5 d) (hB : ∀ b, w.heap.size ≤ b → B b) :
    Calls Tryz.prog 28 #[.pointer (some ⟨S, 0, none⟩), .agg #[.int .i64 5, .string { data := #[97] }, .int .i64 0, .int .i64 0, .int .i64 1, .int .i64 0, .int .i64 0, .int .i64 0, .int .i64 0, .int .i64 0, .int .i64 0]] w (SWSays B w S cA21 4 2 6 (d.fp S) (.agg #[.int .i64 8, .int .i64 0, .int .i64 0, .int .i64 0, .int .i64 0, .int .i64 0, .int .i64 0, .int .i64 0, .int .i64 0, .int .i64 0, .int .i64 0, .int .i64 0, .int .i64 0]) wA6) := by
  have := sw_do h hB cA21_ok (by decide) xA6 xA6_ok
  rw [rA6] at this
  exact this

set_option maxRecDepth 100000 in
set_option maxHeartbeats 4000000 in
theorem awake21_any (w : World) : Calls Tryz.prog 26 #[] w fun e w' => e = .returned (.bool true) ∧ Below w.heap.size w w' := by
  have CN := Lib.hid (show Calls Tryz.prog 27 #[.agg #[.int .i64 2, .int .i64 4, .int .i64 4, .int .i64 2]] w fun e w' => ∃ S d, e = .returned (.tuple #[.pointer (some ⟨S, 0, none⟩), .int .i64 0]) ∧ SW (fun b => w.heap.size ≤ b) w' S cA21 4 2 0 (newW 2) d ∧ Below w.heap.size w w' from sw_new (c := cA21) cA21_ok)
  have CK := Lib.hid (fun W => show Calls Tryz.prog 42 #[.agg #[.int .i64 9, .string { data := #[] }, .int .i64 0, .int .i64 0, .int .i64 0, .int .i64 0, .int .i64 0, .int .i64 0, .int .i64 0, .int .i64 0, .int .i64 0]] W fun e w' => e = .returned (.int .i64 14) ∧ Below W.heap.size W w' from
    storeCheck_any ⟨9, ⟨#[]⟩, 0, 0, 0, ⟨0, 0, 0, 0, 0, 0⟩⟩ W ⟨i64_small (by decide), by decide, i64_small (by decide), i64_small (by decide), i64_small (by decide), ⟨i64_small (by decide), i64_small (by decide), i64_small (by decide), i64_small (by decide), i64_small (by decide), i64_small (by decide)⟩⟩)
  go_enter Tryz.func26, Tryz.ntmps26
  go_wp2_with (first
    | (go_at_call 27
       refine CN.out.mono ?_
       rintro e w0 ⟨S, d0, rfl, hd, hb⟩
       have HD0 := Lib.hid hd
       have HB0 := Lib.hid hb.size
       have HU0 := Lib.hid (show Upd w w0 [] (d0.fp S) from ⟨hb.os, hb.tape, hb.output, hb.size, fun r hr _ => hb.block r hr, fun r hr => .inr (hd.at_.fpLt r hr).2⟩)
       have HF0 := Lib.hid (show ∀ r ∈ d0.fp S, w.heap.size ≤ r from fun r hr => (hd.at_.fpLt r hr).2)
       clear hd hb)
    | (go_at_call 28
       refine calls_named ?_
       intro W6 hW6
       have hb6 : Below w5.heap.size w5 W6 := by rw [hW6]; repeat (first | exact Below.refl _ _ | refine balloc ?_ _)
       have hx5 : W6.heap[w5.heap.size]? = some (.cells #[.int .i64 0, .int .i64 0, .int .i64 0, .int .i64 0, .int .i64 0, .int .i64 0, .int .i64 0, .int .i64 0, .int .i64 0, .int .i64 0, .int .i64 0, .int .i64 0, .int .i64 0] 46 (0, 0)) := by rw [hW6]; exact heap_alloc_new _ _
       have hK5 : Kept W6 (d5.fp S) w5.heap.size (.cells #[.int .i64 0, .int .i64 0, .int .i64 0, .int .i64 0, .int .i64 0, .int .i64 0, .int .i64 0, .int .i64 0, .int .i64 0, .int .i64 0, .int .i64 0, .int .i64 0, .int .i64 0] 46 (0, 0)) := ⟨hx5, fun hq => by have := (HD5.out.at_.fpLt _ hq).1; omega⟩
       clear hW6
       with_reducible refine (dA6 (HD5.out.below hb6) (fun b hb => Nat.le_trans HB5.out (Nat.le_trans hb6.size hb))).mono ?_
       rintro e w6 ⟨d6, rfl, hd, hu⟩
       have HD6 := Lib.hid hd
       have HB6 := Lib.hid (Nat.le_trans HB5.out (Nat.le_trans hb6.size hu.size))
       have HU6 := Lib.hid (HU5.out.trans ((Upd.of_below hb6 _).trans hu))
       have HK2_6 := Lib.hid ((HK2_5.out.below hb6).upd hu)
       have HK4_6 := Lib.hid ((HK4_5.out.below hb6).upd hu)
       have HK5_6 := Lib.hid (hK5.upd hu)
       obtain ⟨p2, pf2, pl2⟩ := box_cells (Below.refl _ _) HK2_6.out.at_
       obtain ⟨p4, pf4, pl4⟩ := box_cells (Below.refl _ _) HK4_6.out.at_
       obtain ⟨p5, pf5, pl5⟩ := box_cells (Below.refl _ _) HK5_6.out.at_
       clear hd hu hb6 hx5 hK5)
    | (go_at_call 28
       refine calls_named ?_
       intro W5 hW5
       have hb5 : Below w4.heap.size w4 W5 := by rw [hW5]; repeat (first | exact Below.refl _ _ | refine balloc ?_ _)
       have hx4 : W5.heap[w4.heap.size]? = some (.cells #[.int .i64 0, .int .i64 1, .int .i64 0, .int .i64 1, .int .i64 5, .int .i64 5, .int .i64 5, .int .i64 5, .int .i64 0, .int .i64 0, .int .i64 0, .int .i64 0, .int .i64 0] 46 (0, 0)) := by rw [hW5]; exact heap_alloc_new _ _
       have hK4 : Kept W5 (d4.fp S) w4.heap.size (.cells #[.int .i64 0, .int .i64 1, .int .i64 0, .int .i64 1, .int .i64 5, .int .i64 5, .int .i64 5, .int .i64 5, .int .i64 0, .int .i64 0, .int .i64 0, .int .i64 0, .int .i64 0] 46 (0, 0)) := ⟨hx4, fun hq => by have := (HD4.out.at_.fpLt _ hq).1; omega⟩
       clear hW5
       with_reducible refine (dA5 (HD4.out.below hb5) (fun b hb => Nat.le_trans HB4.out (Nat.le_trans hb5.size hb))).mono ?_
       rintro e w5 ⟨d5, rfl, hd, hu⟩
       have HD5 := Lib.hid hd
       have HB5 := Lib.hid (Nat.le_trans HB4.out (Nat.le_trans hb5.size hu.size))
       have HU5 := Lib.hid (HU4.out.trans ((Upd.of_below hb5 _).trans hu))
       have HK2_5 := Lib.hid ((HK2_4.out.below hb5).upd hu)
       have HK4_5 := Lib.hid (hK4.upd hu)
       clear hd hu hb5 hx4 hK4)
    | (go_at_call 28
       refine calls_named ?_
       intro W4 hW4
       have hb4 : Below w3.heap.size w3 W4 := by rw [hW4]; repeat (first | exact Below.refl _ _ | refine balloc ?_ _)
       clear hW4
       with_reducible refine (dA4 (HD3.out.below hb4) (fun b hb => Nat.le_trans HB3.out (Nat.le_trans hb4.size hb))).mono ?_
       rintro e w4 ⟨d4, rfl, hd, hu⟩
       have HD4 := Lib.hid hd
       have HB4 := Lib.hid (Nat.le_trans HB3.out (Nat.le_trans hb4.size hu.size))
       have HU4 := Lib.hid (HU3.out.trans ((Upd.of_below hb4 _).trans hu))
       have HK2_4 := Lib.hid ((HK2_3.out.below hb4).upd hu)
       clear hd hu hb4)
    | (go_at_call 28
       refine calls_named ?_
       intro W3 hW3
       have hb3 : Below w2.heap.size w2 W3 := by rw [hW3]; repeat (first | exact Below.refl _ _ | refine balloc ?_ _)
       have hx2 : W3.heap[w2.heap.size]? = some (.cells #[.int .i64 0, .int .i64 1, .int .i64 1, .int .i64 0, .int .i64 0, .int .i64 0, .int .i64 0, .int .i64 0, .int .i64 0, .int .i64 0, .int .i64 0, .int .i64 0, .int .i64 0] 46 (0, 0)) := by rw [hW3]; exact heap_alloc_new _ _
       have hK2 : Kept W3 (d2.fp S) w2.heap.size (.cells #[.int .i64 0, .int .i64 1, .int .i64 1, .int .i64 0, .int .i64 0, .int .i64 0, .int .i64 0, .int .i64 0, .int .i64 0, .int .i64 0, .int .i64 0, .int .i64 0, .int .i64 0] 46 (0, 0)) := ⟨hx2, fun hq => by have := (HD2.out.at_.fpLt _ hq).1; omega⟩
       clear hW3
       with_reducible refine (dA3 (HD2.out.below hb3) (fun b hb => Nat.le_trans HB2.out (Nat.le_trans hb3.size hb))).mono ?_
       rintro e w3 ⟨d3, rfl, hd, hu⟩
       have HD3 := Lib.hid hd
       have HB3 := Lib.hid (Nat.le_trans HB2.out (Nat.le_trans hb3.size hu.size))
       have HU3 := Lib.hid (HU2.out.trans ((Upd.of_below hb3 _).trans hu))
       have HK2_3 := Lib.hid (hK2.upd hu)
       clear hd hu hb3 hx2 hK2)
    | (go_at_call 28
       refine calls_named ?_
       intro W2 hW2
       have hb2 : Below w1.heap.size w1 W2 := by rw [hW2]; repeat (first | exact Below.refl _ _ | refine balloc ?_ _)
       clear hW2
       with_reducible refine (dA2 (HD1.out.below hb2) (fun b hb => Nat.le_trans HB1.out (Nat.le_trans hb2.size hb))).mono ?_
       rintro e w2 ⟨d2, rfl, hd, hu⟩
       have HD2 := Lib.hid hd
       have HB2 := Lib.hid (Nat.le_trans HB1.out (Nat.le_trans hb2.size hu.size))
       have HU2 := Lib.hid (HU1.out.trans ((Upd.of_below hb2 _).trans hu))
       clear hd hu hb2)
    | (go_at_call 28
       refine calls_named ?_
       intro W1 hW1
       have hb1 : Below w0.heap.size w0 W1 := by rw [hW1]; repeat (first | exact Below.refl _ _ | refine balloc ?_ _)
       clear hW1
       with_reducible refine (dA1 (HD0.out.below hb1) (fun b hb => Nat.le_trans HB0.out (Nat.le_trans hb1.size hb))).mono ?_
       rintro e w1 ⟨d1, rfl, hd, hu⟩
       have HD1 := Lib.hid hd
       have HB1 := Lib.hid (Nat.le_trans HB0.out (Nat.le_trans hb1.size hu.size))
       have HU1 := Lib.hid (HU0.out.trans ((Upd.of_below hb1 _).trans hu))
       clear hd hu hb1)
    | (go_at_call 42
       refine (CK.out _).mono ?_
       rintro e w7 ⟨rfl, hb7⟩
       have HB7 := Lib.hid hb7
       clear hb7))
  go_ret
  exact ⟨rfl, bthen (bthen (HU6.out.below (Nat.le_refl _) (fun k hk => by cases hk)) (balloc (Below.refl _ _) _)) HB7.out⟩
end

section
set_option linter.unusedSimpArgs false
set_option linter.unusedVariables false
open Go.RowKit Go.Lib Go.Sort

set_option maxRecDepth 100000 in
set_option maxHeartbeats 4000000 in
theorem stPEnds_nil (c : Cfg) (A1 : Option Addr) (n1 c1 : Nat) (m : Int) (w : World)  (hok : c.ok) (hc : cfgB c = false) :
    Calls Tryz.prog 8 #[cfgV c, .slice A1 n1 c1, .int .u8 m] w fun e w' => e = .returned (.bool true) ∧ Below w.heap.size w w' := by
  have HRT : Hid (∀ W, Calls Tryz.prog 13 #[.agg #[.int .i64 c.st, .int .i64 c.sa, .int .i64 c.lo, .int .i64 c.hi]] W fun e w' => e = .returned (.bool false) ∧ Below W.heap.size W w') := Lib.hid (fun W => by have := ref17Right_any c W; rw [hc] at this; exact this)
  unfold cfgV
  clear hc hok 
  go_enter Tryz.func8, Tryz.ntmps8
  go_wp2_with (first
    | (go_at_call 26
       refine calls_named ?_
       intro W0 hW0
       have hb0 : Below w.heap.size w W0 := by rw [hW0]; first | exact balloc (Below.refl _ _) _ | exact balloc (balloc (Below.refl _ _) _) _
       have hxc : W0.heap[w.heap.size]? = some (.cells #[.int .i64 c.st, .int .i64 c.sa, .int .i64 c.lo, .int .i64 c.hi] 23 (0, 0)) := by rw [hW0]; first | exact heap_alloc_new _ _ | exact (Below.heap_alloc _ _ _ (by simp)).trans (heap_alloc_new _ _)
       clear hW0
       refine (awake21_any W0).mono ?_
       rintro e w1 ⟨rfl, hb1⟩
       obtain ⟨hxc1, hxc1f, hxc1l⟩ := box_cells hb1 hxc
       have HHXC := Lib.hid ((hb1.block _ (Array.getElem?_eq_some_iff.1 hxc).1).trans hxc)
       have HB1 := Lib.hid (bthen hb0 hb1)
       clear hb0 hxc hb1)
    | (go_at_call 13
       refine (HRT.out _).mono ?_
       rintro e w2 ⟨rfl, hb⟩
       obtain ⟨hx2, hx2f, hx2l⟩ := box_cells hb HHXC.out
       have HB2 := Lib.hid (bthen HB1.out hb)
       clear hb))
  go_ret
  exact ⟨rfl, HB2.out⟩

set_option maxRecDepth 100000 in
set_option maxHeartbeats 4000000 in
theorem stPEnds_long1 (c : Cfg) (A1 : Option Addr) (n1 c1 : Nat) (m : Int) (w : World)  (h1 : 30 < n1) (hok : c.ok) (hc : cfgB c = true) :
    Calls Tryz.prog 8 #[cfgV c, .slice A1 n1 c1, .int .u8 m] w fun e w' => e = .returned (.bool true) ∧ Below w.heap.size w w' := by
  have HRT : Hid (∀ W, Calls Tryz.prog 13 #[.agg #[.int .i64 c.st, .int .i64 c.sa, .int .i64 c.lo, .int .i64 c.hi]] W fun e w' => e = .returned (.bool true) ∧ Below W.heap.size W w') := Lib.hid (fun W => by have := ref17Right_any c W; rw [hc] at this; exact this)
  have q1 : (30 : Int) < (n1 : Int) := by omega
  unfold cfgV
  clear hc hok h1
  go_enter Tryz.func8, Tryz.ntmps8
  go_wp2_with (first
    | (go_at_call 26
       refine calls_named ?_
       intro W0 hW0
       have hb0 : Below w.heap.size w W0 := by rw [hW0]; first | exact balloc (Below.refl _ _) _ | exact balloc (balloc (Below.refl _ _) _) _
       have hxc : W0.heap[w.heap.size]? = some (.cells #[.int .i64 c.st, .int .i64 c.sa, .int .i64 c.lo, .int .i64 c.hi] 23 (0, 0)) := by rw [hW0]; first | exact heap_alloc_new _ _ | exact (Below.heap_alloc _ _ _ (by simp)).trans (heap_alloc_new _ _)
       clear hW0
       refine (awake21_any W0).mono ?_
       rintro e w1 ⟨rfl, hb1⟩
       obtain ⟨hxc1, hxc1f, hxc1l⟩ := box_cells hb1 hxc
       have HHXC := Lib.hid ((hb1.block _ (Array.getElem?_eq_some_iff.1 hxc).1).trans hxc)
       have HB1 := Lib.hid (bthen hb0 hb1)
       clear hb0 hxc hb1)
    | (go_at_call 13
       refine (HRT.out _).mono ?_
       rintro e w2 ⟨rfl, hb⟩
       obtain ⟨hx2, hx2f, hx2l⟩ := box_cells hb HHXC.out
       have HB2 := Lib.hid (bthen HB1.out hb)
       clear hb))
  go_ret
  exact ⟨rfl, HB2.out⟩
end

section
set_option linter.unusedSimpArgs false
set_option linter.unusedVariables false
open Go.RowKit Go.Lib Go.Sort
end

section
set_option linter.unusedSimpArgs false
set_option linter.unusedVariables false
open Go.RowKit Go.Lib

section
variable (id : ByteArray) (tick val handle a b tg tol win hold : Int) (w : World)

end
end

section
set_option linter.unusedSimpArgs false
set_option linter.unusedVariables false
open Go.RowKit Go.Lib

/-! ### Rows of steps -/
end

section
set_option linter.unusedSimpArgs false
set_option linter.unusedVariables false
open Go.RowKit Go.Lib

/-! ### Two boxes that stand while others are made -/
section
variable {w a b : World} {n : Nat} {cs ds : Array Value}
end

section
variable (s : Nat) (sa lo hi : Int) (id : ByteArray) (tick val handle a b tg tol win hold : Int) (w : World)

end
end

section
set_option linter.unusedSimpArgs false
set_option linter.unusedVariables false
open Go.RowKit Go.Lib
end

section
set_option linter.unusedSimpArgs false
set_option linter.unusedVariables false
open Go.RowKit Go.Lib
end

section
set_option linter.unusedSimpArgs false
set_option linter.unusedVariables false
open Go.RowKit Go.Lib

/-! ### Key -/
/-- Eight bytes of a word, the highest one first. -/
def hG (f : Nat → Nat → Nat) (x h0 : Nat) : Nat → Nat
  | 0 => h0
  | k + 1 => f (hG f x h0 k) (x / (72057594037927936 / 256 ^ k) % 256)
def hF (x h0 k : Nat) : Nat := hG stepH x h0 k
end

section
set_option linter.unusedSimpArgs false
set_option linter.unusedVariables false
open Go.RowKit Go.Lib
end

section
set_option linter.unusedSimpArgs false
set_option linter.unusedVariables false
open Go.RowKit Go.Lib Go.ChangeShapes Go.WideShapes Go.Joins

theorem i64_of_wf {n : Int} (h : (Lit.int .i64 n).wf = true) : I64 n := by simpa [Lit.wf, IntKind.min, IntKind.max, IntKind.signed, IntKind.bits, I64] using h

theorem cl_pol : Tryz.prog.cellsOf 35 = 6 := by kernel_rfl
theorem cl_call : Tryz.prog.cellsOf 37 = 11 := by kernel_rfl
theorem cl_i64 : Tryz.prog.cellsOf 2 = 1 := by kernel_rfl
theorem cl_int : Tryz.prog.cellsOf 3 = 1 := by kernel_rfl
theorem cl_str : Tryz.prog.cellsOf 9 = 1 := by kernel_rfl

theorem list6 {α : Type} {l : List α} (h : l.length = 6) : ∃ a0 a1 a2 a3 a4 a5, l = [a0, a1, a2, a3, a4, a5] := by
  match l, h with
  | [a0, a1, a2, a3, a4, a5], _ => exact ⟨_, _, _, _, _, _, rfl⟩
theorem list11 {α : Type} {l : List α} (h : l.length = 11) : ∃ a0 a1 a2 a3 a4 a5 a6 a7 a8 a9 a10, l = [a0, a1, a2, a3, a4, a5, a6, a7, a8, a9, a10] := by
  match l, h with
  | [a0, a1, a2, a3, a4, a5, a6, a7, a8, a9, a10], _ => exact ⟨_, _, _, _, _, _, _, _, _, _, _, rfl⟩

section
variable {H : Type} {enc : TypeId × Value → H} {w : World} {base : Nat} {spare : Nat → Bool} {held : Bool}

/-- One field of a struct that is a number. -/
theorem field_i64 {fuel : Nat} {t : TypeId} (ht : Tryz.prog.underlying t = some (.int .i64)) (hc : Tryz.prog.cellsOf t = 1) {cs : List Value} {xs : List (DataW H × List MemPlace)} {i o : Nat} (hi : i < xs.length) {v : Value} (hv : cs.drop o = v :: cs.drop (o + 1))
    (h : DataW.trod enc Tryz.prog w base spare held fuel t ((cs.drop o).take (Tryz.prog.cellsOf t)) = xs[i]?) : ∃ n, v = .int .i64 n ∧ I64 n := by
  rw [hc, hv, List.take_succ_cons, List.take_zero, List.getElem?_eq_getElem hi] at h
  obtain ⟨n, hn, _, hw⟩ := DataW.trod_int ht h
  simp only [List.cons.injEq, and_true] at hn
  exact ⟨n, hn, i64_of_wf hw⟩

theorem field_str {fuel : Nat} {t : TypeId} (ht : Tryz.prog.underlying t = some .string) (hc : Tryz.prog.cellsOf t = 1) {cs : List Value} {xs : List (DataW H × List MemPlace)} {i o : Nat} (hi : i < xs.length) {v : Value} (hv : cs.drop o = v :: cs.drop (o + 1))
    (h : DataW.trod enc Tryz.prog w base spare held fuel t ((cs.drop o).take (Tryz.prog.cellsOf t)) = xs[i]?) : ∃ s : ByteArray, v = .string s ∧ s.size ≤ maxLen := by
  rw [hc, hv, List.take_succ_cons, List.take_zero, List.getElem?_eq_getElem hi] at h
  obtain ⟨n, hn, _, hw⟩ := DataW.trod_string ht h
  simp only [List.cons.injEq, and_true] at hn
  exact ⟨n, hn, hw⟩

theorem pol_reads {fuel : Nat} {cs : List Value} {x : DataW H × List MemPlace} (h : DataW.trod enc Tryz.prog w base spare held fuel 35 cs = some x) :
    ∃ p : Pol, p.ok ∧ cs = [.int .i64 p.mn, .int .i64 p.mx, .int .i64 p.tg, .int .i64 p.tol, .int .i64 p.win, .int .i64 p.hold] := by
  obtain ⟨xs, n, _, _, hl, hx, hf⟩ := DataW.trod_struct Tryz.underlying35 h
  rw [cl_pol] at hl
  replace hx : xs.length = 6 := hx
  obtain ⟨a0, a1, a2, a3, a4, a5, rfl⟩ := list6 hl
  obtain ⟨n0, rfl, k0⟩ := field_i64 Tryz.underlying2 cl_i64 (i := 0) (by omega) (o := 0) rfl (hf 0 _ rfl)
  obtain ⟨n1, rfl, k1⟩ := field_i64 Tryz.underlying2 cl_i64 (i := 1) (by omega) (o := 1) rfl (hf 1 _ rfl)
  obtain ⟨n2, rfl, k2⟩ := field_i64 Tryz.underlying2 cl_i64 (i := 2) (by omega) (o := 2) rfl (hf 2 _ rfl)
  obtain ⟨n3, rfl, k3⟩ := field_i64 Tryz.underlying2 cl_i64 (i := 3) (by omega) (o := 3) rfl (hf 3 _ rfl)
  obtain ⟨n4, rfl, k4⟩ := field_i64 Tryz.underlying2 cl_i64 (i := 4) (by omega) (o := 4) rfl (hf 4 _ rfl)
  obtain ⟨n5, rfl, k5⟩ := field_i64 Tryz.underlying2 cl_i64 (i := 5) (by omega) (o := 5) rfl (hf 5 _ rfl)
  exact ⟨⟨n0, n1, n2, n3, n4, n5⟩, ⟨k0, k1, k2, k3, k4, k5⟩, rfl⟩

theorem call_reads {fuel : Nat} {cs : List Value} {x : DataW H × List MemPlace} (h : DataW.trod enc Tryz.prog w base spare held fuel 37 cs = some x) :
    ∃ c : CallD, c.ok ∧ cs = callCells c := by
  obtain ⟨xs, n, _, _, hl, hx, hf⟩ := DataW.trod_struct Tryz.underlying37 h
  rw [cl_call] at hl
  replace hx : xs.length = 6 := hx
  obtain ⟨a0, a1, a2, a3, a4, a5, a6, a7, a8, a9, a10, rfl⟩ := list11 hl
  obtain ⟨n0, rfl, k0⟩ := field_i64 Tryz.underlying3 cl_int (i := 0) (by omega) (o := 0) rfl (hf 0 _ rfl)
  obtain ⟨n1, rfl, k1⟩ := field_str Tryz.underlying9 cl_str (i := 1) (by omega) (o := 1) rfl (hf 1 _ rfl)
  obtain ⟨n2, rfl, k2⟩ := field_i64 Tryz.underlying2 cl_i64 (i := 2) (by omega) (o := 2) rfl (hf 2 _ rfl)
  obtain ⟨n3, rfl, k3⟩ := field_i64 Tryz.underlying2 cl_i64 (i := 3) (by omega) (o := 3) rfl (hf 3 _ rfl)
  obtain ⟨n4, rfl, k4⟩ := field_i64 Tryz.underlying3 cl_int (i := 4) (by omega) (o := 4) rfl (hf 4 _ rfl)
  have h5 := hf 5 _ rfl
  rw [List.getElem?_eq_getElem (by omega)] at h5
  obtain ⟨p, k5, hp⟩ := pol_reads h5
  replace hp : ([a5, a6, a7, a8, a9, a10] : List Value).take (Tryz.prog.cellsOf 35) = _ := hp
  rw [cl_pol] at hp
  simp only [List.take_succ_cons, List.take_zero, List.cons.injEq, and_true] at hp
  obtain ⟨rfl, rfl, rfl, rfl, rfl, rfl⟩ := hp
  exact ⟨⟨n0, n1, n2, n3, n4, p⟩, ⟨k0, k1, k2, k3, k4, k5⟩, rfl⟩

theorem calls_row {fuel : Nat} {cs : List Value} {x : DataW H × List MemPlace} (h : DataW.trod enc Tryz.prog w base spare held fuel 24 cs = some x) :
    ∃ (v : Value) (l : List CallD), cs = [v] ∧ l.length ≤ maxLen ∧ (∀ p ∈ l, p.ok) ∧ RowIn 11 callCells w v l := by
  haveI : Inhabited CallD := ⟨⟨0, ⟨#[]⟩, 0, 0, 0, ⟨0, 0, 0, 0, 0, 0⟩⟩⟩
  exact row_read (f := callCells) Tryz.underlying24 cl_call (by decide) (fun _ _ _ h => call_reads h) h
end
end

section
set_option linter.unusedSimpArgs false
set_option linter.unusedVariables false
open Go.RowKit Go.Lib Go.Sort

theorem cfgOk_of {c : Cfg} (hc : cfgB c = true) (hok : c.ok) : CfgOk c c.sa.toNat c.hi.toNat := by
  have h := hc
  unfold cfgB at h
  simp only [Bool.and_eq_true, decide_eq_true_eq] at h
  exact ⟨hc, by omega, by omega, hok⟩
end

section
set_option linter.unusedSimpArgs false
set_option linter.unusedVariables false
open Go.RowKit Go.Lib Go.Sort

theorem SW.mono {B : Nat → Prop} {w : World} {S : Nat} {c : Cfg} {rs rh n m : Nat} {wd : Wd} {d : StoD} (h : SW B w S c rs rh n wd d) (hm : n ≤ m) : SW B w S c rs rh m wd d := ⟨h.at_.mono hm, h.ok.mono hm, h.home, Nat.le_trans h.tot hm⟩
/-- Behind k calls: the store, and that no old thing turned. -/
structure PubAt (W w wr : World) (S : Nat) (c : Cfg) (rs rh k : Nat) (wd : Wd) (d : StoD) : Prop where
  sw : SW (fun b => w.heap.size ≤ b) wr S c rs rh k wd d
  b : Below w.heap.size w wr
  low : W.heap.size ≤ w.heap.size
  cuts : wd.cuts = [] ∧ wd.ep = 0
theorem PubAt.below {W w wr w' : World} {S : Nat} {c : Cfg} {rs rh k : Nat} {wd : Wd} {d : StoD} (h : PubAt W w wr S c rs rh k wd d) (hb : Below wr.heap.size wr w') : PubAt W w w' S c rs rh k wd d := ⟨h.sw.below hb, bthen h.b hb, h.low, h.cuts⟩
theorem upd_low {w wr w' : World} {fp fp' : List Nat} (h : Below w.heap.size w wr) (hu : Upd wr w' fp fp') (hf : ∀ r ∈ fp, w.heap.size ≤ r) : Below w.heap.size w w' := h.trans (hu.below h.size hf)

set_option maxRecDepth 100000 in
set_option maxHeartbeats 8000000 in
theorem stPub_main (c : Cfg) (v : Value) (l : List CallD) (m : Nat) (w : World) (hv : RowIn 11 callCells w v l) (hok : ∀ p ∈ l, p.ok) (hc : c.ok) (hcb : cfgB c = true) (hl : l.length ≤ 30) (hm : m < 256) :
    Calls Tryz.prog 8 #[cfgV c, v, .int .u8 (m : Nat)] w fun e w' => e = .returned (.bool true) ∧ Below w.heap.size w w' := by
  obtain ⟨A, cp, rfl⟩ := hv.form
  have hcc := cfgOk_of hcb hc
  have hst : okSt c.st = true := by unfold cfgB at hcb; simp only [Bool.and_eq_true] at hcb; exact hcb.1
  have hbd := okSt_bd _ hst
  have HCC := Lib.hid hcc
  have CN := Lib.hid (fun W => sw_new (w := W) hcc)
  have CR := Lib.hid (fun W => ref17Right_any c W)
  rw [hcb] at CR
  have HV := Lib.hid hv
  have HOK := Lib.hid hok
  have HST := Lib.hid (And.intro hst hbd)
  obtain ⟨rs, hrs⟩ : ∃ rs, rs = c.sa.toNat := ⟨_, rfl⟩
  obtain ⟨rh, hrh⟩ : ∃ rh, rh = c.hi.toNat := ⟨_, rfl⟩
  rw [← hrs, ← hrh] at HCC CN
  have q0 : ¬ (30 : Int) < (l.length : Int) := by omega
  unfold cfgV at CN CR ⊢
  clear hv hok hcc hcb hst hbd hrs hrh
  go_enter Tryz.func8, Tryz.ntmps8
  go_wp2_with (first
    | (go_at_call 26
       refine calls_named ?_
       intro W1 hW1
       have HB1 := Lib.hid (show Below w.heap.size w W1 by rw [hW1]; exact balloc (Below.refl _ _) _)
       have HC1 := Lib.hid (show W1.heap[w.heap.size]? = some (.cells #[.int .i64 c.st, .int .i64 c.sa, .int .i64 c.lo, .int .i64 c.hi] 23 (0, 0)) by rw [hW1]; exact heap_alloc_new _ _)
       clear hW1
       refine (awake21_any W1).mono ?_
       rintro e w2 ⟨rfl, hb⟩
       have HB2 := Lib.hid (bthen HB1.out hb)
       have HC2 := Lib.hid ((hb.block _ (Array.getElem?_eq_some_iff.1 HC1.out).1).trans HC1.out)
       obtain ⟨c1, c2, c3⟩ := box_cells (Below.refl _ _) HC2.out
       clear hb)
    | (go_at_call 13
       refine (CR.out _).mono ?_
       rintro e w3 ⟨rfl, hb⟩
       have HB3 := Lib.hid (bthen HB2.out hb)
       have HC3 := Lib.hid ((hb.block _ (Array.getElem?_eq_some_iff.1 HC2.out).1).trans HC2.out)
       clear c1 c2 c3
       obtain ⟨c1, c2, c3⟩ := box_cells (Below.refl _ _) HC3.out
       clear hb)
    | (go_at_call 27
       refine (CN.out _).mono ?_
       rintro e w4 ⟨S, d0, rfl, hd, hb⟩
       have HP4 := Lib.hid (show PubAt w w3 w4 S c rs rh 0 (newW c.st.toNat) d0 from ⟨hd, hb, HB3.out.size, rfl, rfl⟩)
       clear hb hd c1 c2 c3))
  go_loopg [36] l.length (fun g s36 wr => ∃ (k : Nat) (wd : Wd) (d : StoD), k ≤ l.length ∧ l.length - k ≤ g ∧ s36 = .int .i64 k ∧ PubAt w w3 wr S c rs rh k wd d)
  case atStart => exact ⟨0, _, d0, Nat.zero_le _, Nat.le_refl _, rfl, HP4.out⟩
  case round =>
    obtain ⟨k, wd, d, hk, hg, rfl, hp⟩ := hrel
    rename World => wr
    have HP := Lib.hid hp
    clear hp
    by_cases hlt : k < l.length
    · as_aux_lemma =>
      have z1 : (k : Int) < (l.length : Int) := by omega
      have z2 : (0 : Int) ≤ (k : Int) := by omega
      obtain ⟨b, o, rfl, hbw, hcx⟩ := HV.out.at_ hlt
      have hxok := HOK.out _ (List.getElem_mem hlt)
      generalize l[k] = x at hcx hxok
      have hbb : ∀ j u, (callCells x)[j]? = some u → wr.cell? ⟨b, o + k * 11 + j, none⟩ = some u := fun j u hu => by
        have hlow : b < w3.heap.size := Nat.lt_of_lt_of_le hbw HB3.out.size
        exact (HP.out.b.cell (p := ⟨b, _, none⟩) hlow).trans ((HB3.out.cell (p := ⟨b, _, none⟩) hbw).trans (hcx j u hu))
      have CD := Lib.hid (fun W (hW : Below wr.heap.size wr W) => sw_do (HP.out.below hW).sw (fun b hb => Nat.le_trans (HP.out.below hW).b.size hb) HCC.out (by omega) x hxok)
      have CQ := Lib.hid (fun (h3 : x.kind ≠ 3) (h4 : x.kind ≠ 4) => doW_cuts (c := c) (rs := rs) (rh := rh) h3 h4 HP.out.cuts)
      clear hcx hxok
      obtain ⟨kind, id, tick, val, handle, ⟨p0, p1, p2, p3, p4, p5⟩⟩ := x
      have x0 := hbb 0 _ rfl
      have x1 := hbb 1 _ rfl
      have x2 := hbb 2 _ rfl
      have x3 := hbb 3 _ rfl
      have x4 := hbb 4 _ rfl
      have x5 := hbb 5 _ rfl
      have x6 := hbb 6 _ rfl
      have x7 := hbb 7 _ rfl
      have x8 := hbb 8 _ rfl
      have x9 := hbb 9 _ rfl
      have x10 := hbb 10 _ rfl
      rw [Nat.add_zero] at x0
      unfold callV at CD
      dsimp only at x0 x1 x2 x3 x4 x5 x6 x7 x8 x9 x10 CD CQ
      clear hbb
      by_cases h3 : kind = 3
      · subst h3
        go_wp2
        go_roundg (l.length - (k + 1))
        case measure => omega
        case rel => exact ⟨k + 1, wd, d, hlt, Nat.le_refl _, by go_num, ⟨(HP.out.sw.below (balloc (Below.refl _ _) _)).mono (Nat.le_succ k), bthen HP.out.b (balloc (Below.refl _ _) _), HP.out.low, HP.out.cuts⟩⟩
      · by_cases h4 : kind = 4
        · subst h4
          go_wp2
          go_roundg (l.length - (k + 1))
          case measure => omega
          case rel => exact ⟨k + 1, wd, d, hlt, Nat.le_refl _, by go_num, ⟨(HP.out.sw.below (balloc (Below.refl _ _) _)).mono (Nat.le_succ k), bthen HP.out.b (balloc (Below.refl _ _) _), HP.out.low, HP.out.cuts⟩⟩
        · have CQ2 := Lib.hid (CQ.out h3 h4)
          have q3 : (kind == 3) = false := by simpa using h3
          have q4 : (kind == 4) = false := by simpa using h4
          have q5 : (kind != 3) = true := by simpa using h3
          have q6 : (kind != 4) = true := by simpa using h4
          go_wp2_with (first
            | (go_at_call 28
               refine calls_named ?_
               intro W5 hW5
               have hb5 : Below wr.heap.size wr W5 := by rw [hW5]; exact balloc (Below.refl _ _) _
               clear hW5
               refine (CD.out W5 hb5).mono ?_
               rintro e w6 ⟨d6, rfl, hd6, hu6⟩
               have HD6 := Lib.hid hd6
               have HB6 := Lib.hid (upd_low (bthen HP.out.b hb5) hu6 (fun r hr => ((HP.out.below hb5).sw.at_.fpLt r hr).2))
               clear hb5 hd6 hu6))
          go_roundg (l.length - (k + 1))
          case measure => omega
          case rel => exact ⟨k + 1, _, d6, hlt, Nat.le_refl _, by go_num, ⟨HD6.out, HB6.out, HP.out.low, CQ2.out⟩⟩
    · obtain rfl : k = l.length := by omega
      have z1 : ¬ (l.length : Int) < (l.length : Int) := by omega
      obtain ⟨r, hr⟩ : ∃ r, r = m % 70 := ⟨_, rfl⟩
      have hr70 : r < 70 := by omega
      have hrem : ((m : Int)).tmod 70 = (r : Int) := by rw [hr]; rfl
      have hwr8 : IntKind.u8.wrap (r : Int) = (r : Int) := by simp [IntKind.wrap, IntKind.signed, IntKind.bits]; omega
      have hwr64 : IntKind.i64.wrap (r : Int) = (r : Int) := by rw [IntKind.wrap_i64]; omega
      have hd0 := HP.out.sw.at_
      rw [← pubW_zero HP.out.cuts] at hd0
      have HD0 := Lib.hid hd0
      have HBD := Lib.hid (show ∀ (d : StoD) (wr : World) (n : Nat) (wd2 : Wd), StoreAt (fun b => w3.heap.size ≤ b) wr S c rs rh n wd2 d → wd2.st = wd.st → (d.sts.length : Int) = c.st from fun d wr n wd2 h e => by
        have := h.len
        rw [this, e]
        exact HP.out.sw.ok.len)
      have HTOT := Lib.hid (show (allW wd).length ≤ 30 from Nat.le_trans HP.out.sw.tot hl)
      have HHM := Lib.hid HP.out.sw.home
      have HPB := Lib.hid HP.out.b
      clear hd0 hr
      go_wp2
      go_loopg [11] (70 - 0) (fun g s11 wq => ∃ (k : Nat) (d : StoD), k ≤ r ∧ r - k ≤ g ∧ s11 = .int .i64 ((k : Int) + 1) ∧ StoreAt (fun b => w3.heap.size ≤ b) wq S c rs rh l.length (pubW wd (min k 64)) d ∧ Below w3.heap.size w3 wq)
      case atStart => exact ⟨0, d, Nat.zero_le _, by omega, rfl, HD0.out, HPB.out⟩
      case round =>
        obtain ⟨k, d, hk, hg, rfl, hat, hb⟩ := hrel
        rename World => wq
        have HAT := Lib.hid hat
        have HB := Lib.hid hb
        have hds := HBD.out d wq _ _ hat rfl
        have hst := HST.out
        clear hat hb
        by_cases hlt : k < r
        · have z1 : (k : Int) + 1 ≤ (r : Int) := by omega
          have z2 : ¬ (r : Int) < (k : Int) + 1 := by omega
          have CPt := Lib.hid (parts_any wq HAT.out (by omega) (by omega) (by have := HTOT.out; show (allW wd).length ≤ _; omega) (by omega))
          by_cases h64 : k < 64
          · have z3 : ¬ (64 : Int) < (k : Int) + 1 := by omega
            have e0 : min k 64 = k := by omega
            have e1 : min (k + 1) 64 = k + 1 := by omega
            rw [e0] at CPt
            have ek : ((k + 1 : Nat) : Int) = (k : Int) + 1 := by omega
            have CPb := Lib.hid (fun W v dk (h1 : StoreAt (fun b => w3.heap.size ≤ b) W S c rs rh l.length (pubW wd k) dk) (h2 : PubIn W v dk) (h3 : w3.heap.size ≤ W.heap.size) (h4 : dk.sts.length = d.sts.length) => show Calls Tryz.prog 34 #[.pointer (some ⟨S, 0, none⟩), v] W fun e w' => e = .returned (.tuple #[.int .i64 ((k : Int) + 1), .int .i64 ((k : Int) + 1), .int .i64 0]) ∧ ∃ C, StoreAt (fun b => w3.heap.size ≤ b) w' S c rs rh l.length (pubW wd (k + 1)) { dk with live := putM dk.live (hdl (k + 1)) C } ∧ Upd W w' (dk.fp S) (dk.fp S) from
              (stoPublish_ok W v h1 (fun b hb => Nat.le_trans h3 hb) (by omega) h2 (pubW_home HHM.out k) (by have := HTOT.out; show (allW wd).length ≤ _; omega) (by rw [pubW_len]; omega) ⟨by show (0 : Int) ≤ (k : Nat); omega, by show ((k : Nat) : Int) ≤ _; omega⟩ (by rw [h1.cnt, pubW_live]; omega)).mono (by
                rintro e w' ⟨rfl, C, _, h5, h6⟩
                rw [pubW_len, pubW_succ wd k] at h5
                rw [pubW_len, ek]
                exact ⟨rfl, C, h5, h6⟩))
            have CC := Lib.hid (fun W dk (h1 : StoreAt (fun b => w3.heap.size ≤ b) W S c rs rh l.length (pubW wd (k + 1)) dk) (h4 : dk.sts.length = d.sts.length) (j : Nat) (hj : j < k + 1) => show ∃ C, (Calls Tryz.prog 35 #[.pointer (some ⟨S, 0, none⟩), .int .i64 ((j : Int) + 1)] W fun e w' => e = .returned (.tuple #[.pointer (some ⟨C, 0, none⟩), .int .i64 0]) ∧ w' = W) ∧ CutHas (fun b => b ∉ dk.fp S ∧ w3.heap.size ≤ b) W C rs rh ((j : Int) + 1) (allW wd) from by
              obtain ⟨C, h2, h3, h5⟩ := h1.pub (by omega) hj
              have ej : ((j + 1 : Nat) : Int) = (j : Int) + 1 := by omega
              have := stoCut_ok W h1 (by omega) (by rw [pubW_len]; omega) (pubW_ep wd (k + 1)) j (by rw [pubW_len]; exact hj) C h2 h3
              rw [ej] at this h5
              exact ⟨C, this, h5⟩)
            go_wp2_with (first
              | (go_at_call 38
                 refine CPt.out.mono ?_
                 rintro e w5 ⟨A5, m5, c5, dk, rfl, h5, hp5, hu5, hl5⟩
                 have H5 := Lib.hid h5
                 have HP5 := Lib.hid hp5
                 have HU5 := Lib.hid hu5
                 have HL5 := Lib.hid hl5
                 have HB5 := Lib.hid (upd_low HB.out hu5 (fun r hr => (HAT.out.fpLt r hr).2))
                 clear h5 hp5 hu5 hl5)
              | (go_at_call 34
                 refine (CPb.out _ _ _ H5.out HP5.out HB5.out.size HL5.out).mono ?_
                 rintro e w6 ⟨rfl, C6, h6, hu6⟩
                 have H6 := Lib.hid h6
                 have HB6 := Lib.hid (upd_low HB5.out hu6 (fun r hr => (H5.out.fpLt r hr).2))
                 obtain ⟨Ca, CA, hCa⟩ := CC.out _ _ h6 HL5.out k (by omega)
                 obtain ⟨Cb, CB, hCb⟩ := CC.out _ _ h6 HL5.out 0 (by omega)
                 have CA := Lib.hid CA
                 have CB2 := Lib.hid (show Calls Tryz.prog 35 #[.pointer (some ⟨S, 0, none⟩), .int .i64 1] w6 fun e w' => e = .returned (.tuple #[.pointer (some ⟨Cb, 0, none⟩), .int .i64 0]) ∧ w' = w6 from CB)
                 have HCa := Lib.hid hCa
                 have HCb := Lib.hid hCb
                 clear h6 hu6 hCa hCb CB)
              | (go_at_call 35
                 with_reducible refine CB2.out.mono ?_
                 rintro e w8 ⟨rfl, rfl⟩)
              | (go_at_call 35
                 with_reducible refine CA.out.mono ?_
                 rintro e w7 ⟨rfl, rfl⟩)
              | (go_at_call 39
                 refine (HCa.out.epoch).mono ?_
                 rintro e w9 ⟨rfl, hb⟩
                 have HB9 := Lib.hid hb
                 clear hb)
              | (go_at_call 40
                 refine (cut_differ (HCa.out.below HB9.out) (HCb.out.below HB9.out) HCC.out.room.r2 HCC.out.room.h2).mono ?_
                 rintro e w10 ⟨Ad, cd, rfl, hb⟩
                 have HB10 := Lib.hid (bthen HB9.out hb)
                 clear hb))
            go_roundg (r - (k + 1))
            case measure => omega
            case rel => exact ⟨k + 1, _, hlt, Nat.le_refl _, by go_num, by rw [e1]; exact H6.out.below HB10.out, bthen HB6.out HB10.out⟩
          · have z3 : (64 : Int) < (k : Int) + 1 := by omega
            have e0 : min k 64 = 64 := by omega
            have e1 : min (k + 1) 64 = 64 := by omega
            rw [e0] at CPt
            have CPb := Lib.hid (fun W v dk (h1 : StoreAt (fun b => w3.heap.size ≤ b) W S c rs rh l.length (pubW wd 64) dk) (h2 : PubIn W v dk) (h3 : w3.heap.size ≤ W.heap.size) (h4 : dk.sts.length = d.sts.length) => stoPublish_full W v h1 (fun b hb => Nat.le_trans h3 hb) (by omega) h2 (pubW_home HHM.out 64) (by have := HTOT.out; show (allW wd).length ≤ _; omega) (by rw [pubW_len]; omega) ⟨by show (0 : Int) ≤ ((64 : Nat) : Int); omega, by show ((64 : Nat) : Int) ≤ _; omega⟩ (by rw [h1.cnt, pubW_live]; omega))
            go_wp2_with (first
              | (go_at_call 38
                 refine CPt.out.mono ?_
                 rintro e w5 ⟨A5, m5, c5, dk, rfl, h5, hp5, hu5, hl5⟩
                 have H5 := Lib.hid h5
                 have HP5 := Lib.hid hp5
                 have HU5 := Lib.hid hu5
                 have HL5 := Lib.hid hl5
                 have HB5 := Lib.hid (upd_low HB.out hu5 (fun r hr => (HAT.out.fpLt r hr).2))
                 clear h5 hp5 hu5 hl5)
              | (go_at_call 34
                 refine (CPb.out _ _ _ H5.out HP5.out HB5.out.size HL5.out).mono ?_
                 rintro e w6 ⟨rfl, hb6⟩
                 have H6 := Lib.hid (H5.out.below hb6)
                 have HB6 := Lib.hid (bthen HB5.out hb6)
                 clear hb6))
            go_roundg (r - (k + 1))
            case measure => omega
            case rel => exact ⟨k + 1, _, hlt, Nat.le_refl _, by go_num, by rw [e1]; exact H6.out, HB6.out⟩
        · have z2 : ¬ (k : Int) + 1 ≤ (r : Int) := by omega
          have z3 : (r : Int) < (k : Int) + 1 := by omega
          have HBF := Lib.hid (bthen HB3.out HB.out)
          go_wp2
          go_ret
          exact ⟨rfl, HBF.out⟩
/-- StorePublishes answers true. -/
theorem stPub_walk (c : Cfg) (v : Value) (l : List CallD) (m : Nat) (w : World) (hv : RowIn 11 callCells w v l) (hok : ∀ p ∈ l, p.ok) (hc : c.ok) (hm : m < 256) :
    Calls Tryz.prog 8 #[cfgV c, v, .int .u8 (m : Nat)] w fun e w' => e = .returned (.bool true) ∧ Below w.heap.size w w' := by
  obtain ⟨A, cp, rfl⟩ := hv.form
  cases hcb : cfgB c with
  | false => exact stPEnds_nil c A l.length cp m w hc hcb
  | true =>
    by_cases hl : l.length ≤ 30
    · exact stPub_main c _ l m w hv hok hc hcb hl hm
    · exact stPEnds_long1 c A l.length cp m w (by omega) hc hcb
theorem stPub_int (c : Cfg) (v : Value) (l : List CallD) (a : Int) (w : World) (hv : RowIn 11 callCells w v l) (hok : ∀ p ∈ l, p.ok) (hc : c.ok) (ha : (Lit.int .u8 a).wf = true) :
    Calls Tryz.prog 8 #[cfgV c, v, .int .u8 a] w fun e w' => e = .returned (.bool true) ∧ Below w.heap.size w w' := by
  have h : 0 ≤ a ∧ a < 256 := by simp [Lit.wf, IntKind.min, IntKind.max, IntKind.signed, IntKind.bits] at ha; omega
  obtain ⟨m, rfl⟩ := Int.eq_ofNat_of_zero_le h.1
  exact stPub_walk c v l m w hv hok hc (by omega)
end

end Go.Proofs.YtmniiodpbebnmaaGreat
