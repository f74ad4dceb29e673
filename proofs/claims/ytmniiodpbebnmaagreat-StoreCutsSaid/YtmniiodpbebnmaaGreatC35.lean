/- A store's Do: Trim; calls that are none; Chapter 21's awake; Walks of the references' twins: flywheelref21.Check; Walks of calls.Cuts, Line, one, all, inner, Ops; Walks of calls.inner, Ops; Walks of calls.Ops; flywheelref04.Unlike: the bits of two bytes that are not alike; Walks of flywheelref04's Unlike, Step, Key, Fold, flywheelref05.Of, flywheelref29.Home: they are the program's; Walks of flywheelref04.Fold, flywheelref05.Of, flywheelref29.Home. -/
import Derived.Test.YtmniiodpbebnmaaGreatC34
import Derived.Test.YtmniiodpbebnmaaGreatC33
import Derived.KernelRfl
import Derived.Test.YtmniiodpbebnmaaGreatC08
import Derived.Test.YtmniiodpbebnmaaGreatC12
import Derived.Deep.AppendLies
import Derived.Deep.RegionLaw
import Derived.Test.YtmniiodpbebnmaaGreatC01
namespace Go.Proofs.YtmniiodpbebnmaaGreat

section
set_option linter.unusedSimpArgs false
set_option linter.unusedVariables false
open Go.RowKit Go.Lib Go.Sort
open Go.ChangeMaps (setBlock)

section
variable {B : Nat → Prop} {S : Nat} {c : Cfg} {rs rh n : Nat} {wd : Wd} {d : StoD}
set_option maxRecDepth 100000 in
set_option maxHeartbeats 4000000 in
theorem stoDo_2 (w : World) (h : StoreAt B w S c rs rh n wd d) (hB : ∀ b, w.heap.size ≤ b → B b) (hc : CfgOk c rs rh) (hi : WdOk c rs rh n wd) (hh : HomeOk c wd) (ht : (allW wd).length ≤ 400) (hn : n ≤ 100) (x : CallD) (hx : x.ok) (h0 : chkC x = 0) (hk : x.kind = 2) :
    Calls Tryz.prog 28 #[.pointer (some ⟨S, 0, none⟩), callV x] w (StoSays B w S c rs rh (n + 1) (d.fp S) (repV (doW c rs rh wd x).2) (doW c rs rh wd x).1) := by
  obtain ⟨kind, id, tick, val, handle, ⟨p0, p1, p2, p3, p4, p5⟩⟩ := x
  dsimp only at hk
  subst hk
  obtain ⟨i, s, R, pe, hri, hs, hR, hsk, hst, hbd, hl, CK, HST, hB1, HNF, CM, CP, CH, CS⟩ := do_facts w h hB hc hi 2 id tick val handle ⟨p0, p1, p2, p3, p4, p5⟩ hx h0
  have HB1N := Lib.hid hB1
  have hroom := hc.room
  have hkok := keyK_ok id
  obtain ⟨r, hr⟩ : ∃ r, r = doW c rs rh wd ⟨2, id, tick, val, handle, ⟨p0, p1, p2, p3, p4, p5⟩⟩ := ⟨_, rfl⟩
  rw [← hr]
  have hrr : r = (trimW wd tick, repF 0) := by
    rw [hr]
    unfold doW
    rw [if_neg (by rw [h0]; simp)]
    simp only [show ¬ (2 : Int) = 1 by decide, if_true, if_false]
  have CT := Lib.hid (fun W (t : St) (Rt : List Itm) (ht' : StrOk W c rs rh n t Rt) => strim_any t.T t.M c t.ver t.es rs rh tick W ht'.at_ hroom.r2 hroom.h2 (by have := ht'.grown.len; rw [ab_len] at this; omega) (by have := ht'.ver_; omega) (fun p hp => by have := ht'.grown.vers p hp; omega) (smp_small ht'.at_ hroom.r2))
  have HSL := Lib.hid (show d.sts.length = wd.st.length from h.len)
  have HN := Lib.hid hn
  have HBB := Lib.hid (show ∀ b, w.heap.size ≤ b → b ≠ w.heap.size + 1 → B b ∧ b ≠ w.heap.size + 1 from fun b hb h1 => ⟨hB b hb, h1⟩)
  have hl64 : d.sts.length ≤ 64 := by omega
  have HRR := Lib.hid hrr
  generalize keyK id = k at *
  clear h hc hi hh ht hx h0 hri hs hR hsk hr hB hB1 hst hl hroom hbd hrr
  unfold callV
  go_enter Tryz.func28, Tryz.ntmps28
  go_wp2_with (first
    | (go_at_call 42
       refine calls_named ?_
       intro W1 hW1
       obtain ⟨HB1, HX0, HX1⟩ := boxes2 w _ _ W1 hW1
       clear hW1
       refine (CK.out W1).mono ?_
       rintro e w2 ⟨rfl, hb2⟩
       obtain ⟨HB2, HX02, HX12⟩ := keepH hb2 HB1 HX0 HX1
       clear hb2)
    | (go_at_call 80
       refine (CM.out _ HB2.out).mono ?_
       rintro e w3 ⟨rfl, rfl⟩
       obtain ⟨b1, b2, b3⟩ := box_cells (Below.refl _ _) HX02.out)
    | (go_at_call 81
       refine (CP.out _).mono ?_
       rintro e w4 ⟨rfl, hb4⟩
       obtain ⟨HB4, HX04, HX14⟩ := keepH hb4 HB2 HX02 HX12
       clear hb4 b1 b2 b3)
    | (go_at_call 30
       refine calls_named ?_
       intro W5 hW5
       have hb5 : Below w4.heap.size w4 W5 := by rw [hW5]; exact balloc (Below.refl _ _) _
       have HK5 := Lib.hid (show W5.heap[w4.heap.size]? = some (.cells #[.int .u64 k.1, .int .u64 k.2] 74 (0, 0)) by rw [hW5]; exact heap_alloc_new _ _)
       obtain ⟨HB5, HX05, HX15⟩ := keepH hb5 HB4 HX04 HX14
       clear hW5 hb5
       refine (CH.out W5 HB5.out).mono ?_
       rintro e w6 ⟨rfl, hb6⟩
       obtain ⟨HB6, HX06, HX16⟩ := keepH hb6 HB5 HX05 HX15
       have HK6 := Lib.hid ((hb6.block _ (Array.getElem?_eq_some_iff.1 HK5.out).1).trans HK5.out)
       clear hb6)
    | (go_at_call 32
       refine (CS.out _ HB6.out).mono ?_
       rintro e w7 ⟨rfl, rfl⟩
       obtain ⟨b1, b2, b3⟩ := box_cells (Below.refl _ _) HX06.out
       obtain ⟨k1, k2, k3⟩ := box_cells (Below.refl _ _) HK6.out
       obtain ⟨q1, q2, q3⟩ := box_cells (Below.refl _ _) (HST.out _ HB6.out).cell))
  clear CS CH
  have HT0 := Lib.hid (TrimSt.start (HST.out _ HB6.out) tick)
  have HZ0 := Lib.hid (show w.heap.size ∉ d.fp S from fun hq => by have := ((HST.out _ (Below.refl _ _)).fpLt _ hq).1; omega)
  have HLT := Lib.hid (show w.heap.size + 1 < w7.heap.size from (Array.getElem?_eq_some_iff.1 HX16.out).1)
  clear q1 q2 q3 b1 b2 b3 k1 k2 k3
  go_loopg [51] d.sts.length (fun g s51 wr => ∃ (j : Nat) (dk : StoD), j ≤ d.sts.length ∧ d.sts.length - j ≤ g ∧ s51 = .int .i64 j ∧ TrimSt (fun b => B b ∧ b ≠ w.heap.size + 1) w7 wr S c rs rh n wd d dk tick j)
  case atStart => exact ⟨0, d, Nat.zero_le _, Nat.le_refl _, rfl, HT0.out⟩
  case round =>
    obtain ⟨j, dk, hj, hg, rfl, hat⟩ := hrel
    rename World => wr
    have HA := Lib.hid hat
    have hle := hat.eA
    clear hat
    by_cases hlt : j < d.sts.length
    · have hkl : j < dk.sts.length := by omega
      have hs := List.getElem?_eq_getElem hkl
      have z1 : (j : Int) < (d.sts.length : Int) := by omega
      have z2 : (0 : Int) ≤ (j : Int) := by omega
      obtain ⟨bb, o, hA, hbw, hcc⟩ := HA.out.at_.row.1.at_ hkl
      injection hA with hA
      injection hA with e1 e2
      subst e1 e2
      have c1 : wr.cell? ⟨d.A, j, none⟩ = some (.pointer (some ⟨(dk.sts[j]).T, 0, none⟩)) := by
        have := hcc 0 _ rfl
        rw [hle.1] at this
        simpa using this
      have HS := Lib.hid hs
      clear hcc hbw hs
      generalize dk.sts[j] = t at c1 HS
      have hjw : j < wd.st.length := by have := HSL.out; omega
      have htk := HA.out.rest j t _ (Nat.le_refl j) HS.out (List.getElem?_eq_getElem hjw)
      have CI := Lib.hid (CT.out wr t _ htk)
      obtain ⟨b1, b2, b3⟩ := box_cells (Below.refl _ _) (upd_at HA.out.up HZ0.out HX06.out)
      clear htk
      go_wp2_with (first
        | (go_at_call 83
           refine CI.out.mono ?_
           rintro e w8 ⟨es', rfl, h1, h2, h3, h4⟩
           obtain ⟨dk', h5⟩ := HA.out.step (fun b hb => HBB.out b (Nat.le_trans HB6.out.size hb) (by have := HLT.out; omega)) HN.out HS.out h1 h2 h3 h4
           have HA5 := Lib.hid h5
           clear h1 h2 h3 h4 h5))
      go_roundg (d.sts.length - (j + 1))
      case measure => omega
      case rel => exact ⟨j + 1, dk', hlt, Nat.le_refl _, by go_num, HA5.out⟩
    · obtain rfl : j = d.sts.length := by omega
      have z1 : ¬ (d.sts.length : Int) < (d.sts.length : Int) := by omega
      have HX8 := Lib.hid (upd_at HA.out.up HNF.out HX16.out)
      obtain ⟨y1, y2, y3⟩ := box_cells (Below.refl _ _) HX8.out
      (try unfold zR at y1)
      have hfin := HA.out.at_
      rw [HSL.out, trimTo_all] at hfin
      have HD := Lib.hid hfin
      have HU := Lib.hid ((Upd.of_below HB6.out (d.fp S)).trans HA.out.up)
      clear hfin
      go_wp2
      refine post_named ?_
      intro W9 hW9
      have hW9' : W9 = stor wr (w.heap.size + 1) 0 (repC (repF 0)) := hW9
      obtain ⟨t1, t2, t3, t4⟩ := stor_at HX8.out (repC (repF 0)) rfl W9 hW9'
      obtain ⟨a9, a8, a7⟩ := box_cells (Below.refl _ _) t1
      clear hW9 hW9'
      exact bodyPost_ret (v := repV (repF 0)) (by simp [results, Tryz.results28, go_sem, a9, repV, repC, repF, st0, adv0]) rfl (by rw [HRR.out]; exact sto_endX (Nat.le_succ _) HD.out HU.out t2 t3 t4)


set_option maxRecDepth 100000 in
set_option maxHeartbeats 4000000 in
theorem stoDo_bad (w : World) (h : StoreAt B w S c rs rh n wd d) (x : CallD) (hx : x.ok) (h0 : chkC x ≠ 0) :
    Calls Tryz.prog 28 #[.pointer (some ⟨S, 0, none⟩), callV x] w (StoSays B w S c rs rh (n + 1) (d.fp S) (repV (doW c rs rh wd x).2) (doW c rs rh wd x).1) := by
  obtain ⟨r, hr⟩ : ∃ r, r = doW c rs rh wd x := ⟨_, rfl⟩
  rw [← hr]
  have hrr : r = (wd, repF (chkC x)) := by rw [hr]; unfold doW; rw [if_pos h0]
  have CK := Lib.hid (fun W => storeCheck_any x W hx)
  have HST := Lib.hid (fun W (hW : Below w.heap.size w W) => (h.avoidX (X := w.heap.size + 1) (Nat.le_succ _) hW).mono (Nat.le_succ n))
  generalize chkC x = er at *
  have z : ¬ er = 0 := h0
  have HRR := Lib.hid hrr
  obtain ⟨kind, id, tick, val, handle, ⟨p0, p1, p2, p3, p4, p5⟩⟩ := x
  clear h hr hrr h0 hx
  unfold callV at CK ⊢
  dsimp only at CK ⊢
  go_enter Tryz.func28, Tryz.ntmps28
  go_wp2_with (first
    | (go_at_call 42
       refine calls_named ?_
       intro W1 hW1
       have HB1 := Lib.hid (show Below w.heap.size w W1 by rw [hW1]; exact balloc (balloc (Below.refl _ _) _) _)
       have HX1 := Lib.hid (show W1.heap[w.heap.size + 1]? = some (.cells zR.toArray 46 (0, 0)) by rw [hW1]; exact box_new _ _ _)
       clear hW1
       refine (CK.out W1).mono ?_
       rintro e w8 ⟨rfl, hb2⟩
       have HB2 := Lib.hid (bthen HB1.out hb2)
       have HX8 := Lib.hid ((hb2.block _ (Array.getElem?_eq_some_iff.1 HX1.out).1).trans HX1.out)
       obtain ⟨y1, y2, y3⟩ := box_cells (Below.refl _ _) HX8.out
       (try unfold zR at y1)
       clear hb2))
  refine post_named ?_
  intro W9 hW9
  have hW9' : W9 = stor w8 (w.heap.size + 1) 0 (repC (repF er)) := hW9
  obtain ⟨t1, t2, t3, t4⟩ := stor_at HX8.out (repC (repF er)) rfl W9 hW9'
  obtain ⟨a9, a8, a7⟩ := box_cells (Below.refl _ _) t1
  clear hW9 hW9'
  exact bodyPost_ret (v := repV (repF er)) (by simp [results, Tryz.results28, go_sem, a9, repV, repC, repF, st0, adv0]) rfl (by rw [HRR.out]; exact sto_endX (Nat.le_succ _) (HST.out _ HB2.out) (Upd.of_below HB2.out _) t2 t3 t4)


/-- What a store answers, and what it is behind it. -/
theorem stoDo_any (w : World) (h : StoreAt B w S c rs rh n wd d) (hB : ∀ b, w.heap.size ≤ b → B b) (hc : CfgOk c rs rh) (hi : WdOk c rs rh n wd) (hh : HomeOk c wd) (ht : (allW wd).length ≤ 400) (hn : n ≤ 100) (x : CallD) (hx : x.ok) :
    Calls Tryz.prog 28 #[.pointer (some ⟨S, 0, none⟩), callV x] w (StoSays B w S c rs rh (n + 1) (d.fp S) (repV (doW c rs rh wd x).2) (doW c rs rh wd x).1) := by
  by_cases h0 : chkC x = 0
  · rcases chk_kinds x with hk | hk | hk | hk | hk | hk | hk | hk | hk
    · exact stoDo_1 w h hB hc hi hh ht hn x hx h0 hk
    · exact stoDo_2 w h hB hc hi hh ht hn x hx h0 hk
    · exact stoDo_3 w h hB hc hi hh ht hn x hx h0 hk
    · by_cases hf : findT (tabW wd) x.handle = 0
      · exact stoDo_4 w h hB hc hi hh ht hn x hx h0 hk hf
      · exact stoDo_4b w h hB hc hi hh ht hn x hx h0 hk hf
    · exact stoDo_5 w h hB hc hi hh ht hn x hx h0 hk
    · exact stoDo_6 w h hB hc hi hh ht hn x hx h0 hk
    · exact stoDo_7 w h hB hc hi hh ht hn x hx h0 hk
    · cases hf : wd.over with
      | true => exact stoDo_8b w h hB hc hi hh ht hn x hx h0 hk hf
      | false => exact stoDo_8 w h hB hc hi hh ht hn x hx h0 hk hf
    · exfalso
      unfold chkC at h0
      rw [if_pos hk] at h0
      cases h0
  · exact stoDo_bad w h x hx h0
end
end

section
set_option linter.unusedSimpArgs false
set_option linter.unusedVariables false
open Go.RowKit Go.Lib Go.Sort

/-- A block that is not the store's. -/
structure Kept (w : World) (fp : List Nat) (X : Nat) (o : Obj) : Prop where
  at_ : w.heap[X]? = some o
  off : X ∉ fp
theorem Kept.lt {w : World} {fp : List Nat} {X : Nat} {o : Obj} (h : Kept w fp X o) : X < w.heap.size := (Array.getElem?_eq_some_iff.1 h.at_).1
theorem Kept.upd {w w' : World} {fp fp' : List Nat} {X : Nat} {o : Obj} (h : Kept w fp X o) (hu : Upd w w' fp fp') : Kept w' fp' X o :=
  ⟨(hu.block X h.lt h.off).trans h.at_, fun hq => (hu.fresh X hq).elim h.off (fun h9 => by have := h.lt; omega)⟩
theorem Kept.below {w w' : World} {fp : List Nat} {X : Nat} {o : Obj} (h : Kept w fp X o) (hb : Below w.heap.size w w') : Kept w' fp X o := ⟨(hb.block X h.lt).trans h.at_, h.off⟩
/-- A store and its reference's world, and what stays so of them. -/
structure SW (B : Nat → Prop) (w : World) (S : Nat) (c : Cfg) (rs rh n : Nat) (wd : Wd) (d : StoD) : Prop where
  at_ : StoreAt B w S c rs rh n wd d
  ok : WdOk c rs rh n wd
  home : HomeOk c wd
  tot : (allW wd).length ≤ n
theorem SW.below {B : Nat → Prop} {w w' : World} {S : Nat} {c : Cfg} {rs rh n : Nat} {wd : Wd} {d : StoD} (h : SW B w S c rs rh n wd d) (hb : Below w.heap.size w w') : SW B w' S c rs rh n wd d := ⟨h.at_.below hb, h.ok, h.home, h.tot⟩
def SWSays (B : Nat → Prop) (w : World) (S : Nat) (c : Cfg) (rs rh n : Nat) (fp : List Nat) (v : Value) (wd : Wd) (e : Ending) (w' : World) : Prop := ∃ d', e = .returned v ∧ SW B w' S c rs rh n wd d' ∧ Upd w w' fp (d'.fp S)
theorem sw_do {B : Nat → Prop} {w : World} {S : Nat} {c : Cfg} {rs rh n : Nat} {wd : Wd} {d : StoD} (h : SW B w S c rs rh n wd d) (hB : ∀ b, w.heap.size ≤ b → B b) (hc : CfgOk c rs rh) (hn : n ≤ 99) (x : CallD) (hx : x.ok) :
    Calls Tryz.prog 28 #[.pointer (some ⟨S, 0, none⟩), callV x] w (SWSays B w S c rs rh (n + 1) (d.fp S) (repV (doW c rs rh wd x).2) (doW c rs rh wd x).1) := by
  have hst : okSt c.st = true := by have := hc.cfg; unfold cfgB at this; simp only [Bool.and_eq_true] at this; exact this.1
  have hbd := okSt_bd _ hst
  have hlo : c.lo ≤ 256 := by have := hc.cfg; unfold cfgB at this; simp only [Bool.and_eq_true, decide_eq_true_eq] at this; omega
  refine (stoDo_any w h.at_ hB hc h.ok h.home (by have := h.tot; omega) (by omega) x hx).mono ?_
  rintro e w' ⟨fp', rfl, ⟨d', hd', rfl⟩, hu⟩
  exact ⟨d', rfl, ⟨hd', doW_ok h.ok hbd.2 hlo hc.room.h1 hx, homeOk_do h.home hst h.ok.len, Nat.le_trans tot_do (by have := h.tot; omega)⟩, hu⟩
theorem sw_new {w : World} {c : Cfg} {rs rh : Nat} (hc : CfgOk c rs rh) : Calls Tryz.prog 27 #[cfgV c] w fun e w' => ∃ S d, e = .returned (.tuple #[.pointer (some ⟨S, 0, none⟩), .int .i64 0]) ∧ SW (fun b => w.heap.size ≤ b) w' S c rs rh 0 (newW c.st.toNat) d ∧ Below w.heap.size w w' := by
  have hst : okSt c.st = true := by have := hc.cfg; unfold cfgB at this; simp only [Bool.and_eq_true] at this; exact this.1
  have hbd := okSt_bd _ hst
  refine (stoNew_any c rs rh w hc).mono ?_
  rintro e w' ⟨S, d, rfl, h, hl, hb⟩
  have e9 : d.sts.length = c.st.toNat := by omega
  rw [e9] at h
  exact ⟨S, d, rfl, ⟨h, newW_ok c rs rh _ (by omega), homeOk_new c _, by rw [tot_new]; exact Nat.le_refl _⟩, hb⟩
theorem i64_small {n : Int} (h : 0 ≤ n ∧ n ≤ 100) : I64 n := by unfold I64; omega

def cA21 : Cfg := ⟨2, 4, 4, 2⟩
theorem cA21_ok : CfgOk cA21 4 2 := ⟨by decide, rfl, rfl, by unfold Cfg.ok I64 cA21; decide⟩
def xA1 : CallD := ⟨1, { data := #[97] }, 1, 5, 0, ⟨0, 0, 0, 0, 0, 0⟩⟩
theorem xA1_ok : xA1.ok := ⟨i64_small (by decide), by decide, i64_small (by decide), i64_small (by decide), i64_small (by decide), ⟨i64_small (by decide), i64_small (by decide), i64_small (by decide), i64_small (by decide), i64_small (by decide), i64_small (by decide)⟩⟩
def wA1 : Wd := (doW cA21 4 2 (newW 2) xA1).1
set_option maxRecDepth 100000 in
theorem rA1 : repV (doW cA21 4 2 (newW 2) xA1).2 = .agg #[.int .i64 0, .int .i64 0, .int .i64 0, .int .i64 0, .int .i64 0, .int .i64 0, .int .i64 0, .int .i64 0, .int .i64 0, .int .i64 0, .int .i64 0, .int .i64 0, .int .i64 0] := by kernel_rfl
def xA2 : CallD := ⟨3, { data := #[] }, 0, 0, 0, ⟨0, 0, 0, 0, 0, 0⟩⟩
theorem xA2_ok : xA2.ok := ⟨i64_small (by decide), by decide, i64_small (by decide), i64_small (by decide), i64_small (by decide), ⟨i64_small (by decide), i64_small (by decide), i64_small (by decide), i64_small (by decide), i64_small (by decide), i64_small (by decide)⟩⟩
def wA2 : Wd := (doW cA21 4 2 wA1 xA2).1
set_option maxRecDepth 100000 in
theorem rA2 : repV (doW cA21 4 2 wA1 xA2).2 = .agg #[.int .i64 0, .int .i64 1, .int .i64 1, .int .i64 0, .int .i64 0, .int .i64 0, .int .i64 0, .int .i64 0, .int .i64 0, .int .i64 0, .int .i64 0, .int .i64 0, .int .i64 0] := by kernel_rfl
def xA3 : CallD := ⟨1, { data := #[97] }, 2, 0, 0, ⟨0, 0, 0, 0, 0, 0⟩⟩
theorem xA3_ok : xA3.ok := ⟨i64_small (by decide), by decide, i64_small (by decide), i64_small (by decide), i64_small (by decide), ⟨i64_small (by decide), i64_small (by decide), i64_small (by decide), i64_small (by decide), i64_small (by decide), i64_small (by decide)⟩⟩
def wA3 : Wd := (doW cA21 4 2 wA2 xA3).1
set_option maxRecDepth 100000 in
theorem rA3 : repV (doW cA21 4 2 wA2 xA3).2 = .agg #[.int .i64 0, .int .i64 0, .int .i64 0, .int .i64 0, .int .i64 0, .int .i64 0, .int .i64 0, .int .i64 0, .int .i64 0, .int .i64 0, .int .i64 0, .int .i64 0, .int .i64 0] := by kernel_rfl
def xA4 : CallD := ⟨5, { data := #[97] }, 9, 9, 1, ⟨0, 0, 0, 0, 0, 0⟩⟩
theorem xA4_ok : xA4.ok := ⟨i64_small (by decide), by decide, i64_small (by decide), i64_small (by decide), i64_small (by decide), ⟨i64_small (by decide), i64_small (by decide), i64_small (by decide), i64_small (by decide), i64_small (by decide), i64_small (by decide)⟩⟩
def wA4 : Wd := (doW cA21 4 2 wA3 xA4).1
set_option maxRecDepth 100000 in
theorem rA4 : repV (doW cA21 4 2 wA3 xA4).2 = .agg #[.int .i64 0, .int .i64 1, .int .i64 0, .int .i64 1, .int .i64 5, .int .i64 5, .int .i64 5, .int .i64 5, .int .i64 0, .int .i64 0, .int .i64 0, .int .i64 0, .int .i64 0] := by kernel_rfl
def xA5 : CallD := ⟨4, { data := #[] }, 0, 0, 1, ⟨0, 0, 0, 0, 0, 0⟩⟩
theorem xA5_ok : xA5.ok := ⟨i64_small (by decide), by decide, i64_small (by decide), i64_small (by decide), i64_small (by decide), ⟨i64_small (by decide), i64_small (by decide), i64_small (by decide), i64_small (by decide), i64_small (by decide), i64_small (by decide)⟩⟩
def wA5 : Wd := (doW cA21 4 2 wA4 xA5).1
set_option maxRecDepth 100000 in
theorem rA5 : repV (doW cA21 4 2 wA4 xA5).2 = .agg #[.int .i64 0, .int .i64 0, .int .i64 0, .int .i64 0, .int .i64 0, .int .i64 0, .int .i64 0, .int .i64 0, .int .i64 0, .int .i64 0, .int .i64 0, .int .i64 0, .int .i64 0] := by kernel_rfl
def xA6 : CallD := ⟨5, { data := #[97] }, 0, 0, 1, ⟨0, 0, 0, 0, 0, 0⟩⟩
theorem xA6_ok : xA6.ok := ⟨i64_small (by decide), by decide, i64_small (by decide), i64_small (by decide), i64_small (by decide), ⟨i64_small (by decide), i64_small (by decide), i64_small (by decide), i64_small (by decide), i64_small (by decide), i64_small (by decide)⟩⟩
def wA6 : Wd := (doW cA21 4 2 wA5 xA6).1
set_option maxRecDepth 100000 in
theorem rA6 : repV (doW cA21 4 2 wA5 xA6).2 = .agg #[.int .i64 8, .int .i64 0, .int .i64 0, .int .i64 0, .int .i64 0, .int .i64 0, .int .i64 0, .int .i64 0, .int .i64 0, .int .i64 0, .int .i64 0, .int .i64 0, .int .i64 0] := by kernel_rfl
theorem dA1 {B : Nat → Prop} {w : World} {S : Nat} {d : StoD} (h : SW B w S cA21 4 2 0 (newW 2) d) (hB : ∀ b, w.heap.size ≤ b → B b) :
    Calls Tryz.prog 28 #[.pointer (some ⟨S, 0, none⟩), .agg #[.int .i64 1, .string { data := #[97] }, .int .i64 1, .int .i64 5, .int .i64 0, .int .i64 0, .int .i64 0, .int .i64 0, .int .i64 0, .int .i64 0, .int .i64 0]] w (SWSays B w S cA21 4 2 1 (d.fp S) (.agg #[.int .i64 0, .int .i64 0, .int .i64 0, .int .i64 0, .int .i64 0, .int .i64 0, .int .i64 0, .int .i64 0, .int .i64 0, .int .i64 0, .int .i64 0, .int .i64 0, .int .i64 0]) wA1) := by
  have := sw_do h hB cA21_ok (by decide) xA1 xA1_ok
  rw [rA1] at this
  exact this
theorem dA2 {B : Nat → Prop} {w : World} {S : Nat} {d : StoD} (h : SW B w S cA21 4 2 1 wA1 d) (hB : ∀ b, w.heap.size ≤ b → B b) :
    Calls Tryz.prog 28 #[.pointer (some ⟨S, 0, none⟩), .agg #[.int .i64 3, .string { data := #[] }, .int .i64 0, .int .i64 0, .int .i64 0, .int .i64 0, .int .i64 0, .int .i64 0, .int .i64 0, .int .i64 0, .int .i64 0]] w (SWSays B w S cA21 4 2 2 (d.fp S) (.agg #[.int .i64 0, .int .i64 1, .int .i64 1, .int .i64 0, .int .i64 0, .int .i64 0, .int .i64 0, .int .i64 0, .int .i64 0, .int .i64 0, .int .i64 0, .int .i64 0, .int .i64 0]) wA2) := by
  have := sw_do h hB cA21_ok (by decide) xA2 xA2_ok
  rw [rA2] at this
  exact this
theorem dA3 {B : Nat → Prop} {w : World} {S : Nat} {d : StoD} (h : SW B w S cA21 4 2 2 wA2 d) (hB : ∀ b, w.heap.size ≤ b → B b) :
    Calls Tryz.prog 28 #[.pointer (some ⟨S, 0, none⟩), .agg #[.int .i64 1, .string { data := #[97] }, .int .i64 2, .int .i64 0, .int .i64 0, .int .i64 0, .int .i64 0, .int .i64 0, .int .i64 0, .int .i64 0, .int .i64 0]] w (SWSays B w S cA21 4 2 3 (d.fp S) (.agg #[.int .i64 0, .int .i64 0, .int .i64 0, .int .i64 0, .int .i64 0, .int .i64 0, .int .i64 0, .int .i64 0, .int .i64 0, .int .i64 0, .int .i64 0, .int .i64 0, .int .i64 0]) wA3) := by
  have := sw_do h hB cA21_ok (by decide) xA3 xA3_ok
  rw [rA3] at this
  exact this
theorem dA4 {B : Nat → Prop} {w : World} {S : Nat} {d : StoD} (h : SW B w S cA21 4 2 3 wA3 d) (hB : ∀ b, w.heap.size ≤ b → B b) :
    Calls Tryz.prog 28 #[.pointer (some ⟨S, 0, none⟩), .agg #[.int .i64 5, .string { data := #[97] }, .int .i64 9, .int .i64 9, .int .i64 1, .int .i64 0, .int .i64 0, .int .i64 0, .int .i64 0, .int .i64 0, .int .i64 0]] w (SWSays B w S cA21 4 2 4 (d.fp S) (.agg #[.int .i64 0, .int .i64 1, .int .i64 0, .int .i64 1, .int .i64 5, .int .i64 5, .int .i64 5, .int .i64 5, .int .i64 0, .int .i64 0, .int .i64 0, .int .i64 0, .int .i64 0]) wA4) := by
  have := sw_do h hB cA21_ok (by decide) xA4 xA4_ok
  rw [rA4] at this
  exact this
theorem dA5 {B : Nat → Prop} {w : World} {S : Nat} {d : StoD} (h : SW B w S cA21 4 2 4 wA4 d) (hB : ∀ b, w.heap.size ≤ b → B b) :
    Calls Tryz.prog 28 #[.pointer (some ⟨S, 0, none⟩), .agg #[.int .i64 4, .string { data := #[] }, .int .i64 0, .int .i64 0, .int .i64 1, .int .i64 0, .int .i64 0, .int .i64 0, .int .i64 0, .int .i64 0, .int .i64 0]] w (SWSays B w S cA21 4 2 5 (d.fp S) (.agg #[.int .i64 0, .int .i64 0, .int .i64 0, .int .i64 0, .int .i64 0, .int .i64 0, .int .i64 0, .int .i64 0, .int .i64 0, .int .i64 0, .int .i64 0, .int .i64 0, .int .i64 0]) wA5) := by
  have := sw_do h hB cA21_ok (by decide) xA5 xA5_ok
  rw [rA5] at this
  exact this
theorem dA6 {B : Nat → Prop} {w : World} {S : Nat} {d : StoD} (h : SW B w S cA21 4 2 5 wA5 d) (hB : ∀ b, w.heap.size ≤ b → B b) :
    Calls Tryz.prog 28 #[.pointer (some ⟨S, 0, none⟩), .agg #[.int .i64 5, .string { data := #[97] }, .int .i64 0, .int .i64 0, .int .i64 1, .int .i64 0, .int .i64 0, .int .i64 0, .int .i64 0, .int .i64 0, .int .i64 0]] w (SWSays B w S cA21 4 2 6 (d.fp S) (.agg #[.int .i64 8, .int .i64 0, .int .i64 0, .int .i64 0, .int .i64 0, .int .i64 0, .int .i64 0, .int .i64 0, .int .i64 0, .int .i64 0, .int .i64 0, .int .i64 0, .int .i64 0]) wA6) := by
  have := sw_do h hB cA21_ok (by decide) xA6 xA6_ok
  rw [rA6] at this
  exact this

set_option maxRecDepth 100000 in
set_option maxHeartbeats 4000000 in
theorem awake21_any (w : World) : Calls Tryz.prog 26 #[] w fun e w' => e = .returned (.bool true) ∧ Below w.heap.size w w' := by
  have CN := Lib.hid (show Calls Tryz.prog 27 #[.agg #[.int .i64 2, .int .i64 4, .int .i64 4, .int .i64 2]] w fun e w' => ∃ S d, e = .returned (.tuple #[.pointer (some ⟨S, 0, none⟩), .int .i64 0]) ∧ SW (fun b => w.heap.size ≤ b) w' S cA21 4 2 0 (newW 2) d ∧ Below w.heap.size w w' from sw_new (c := cA21) cA21_ok)
  have CK := Lib.hid (fun W => show Calls Tryz.prog 42 #[.agg #[.int .i64 9, .string { data := #[] }, .int .i64 0, .int .i64 0, .int .i64 0, .int .i64 0, .int .i64 0, .int .i64 0, .int .i64 0, .int .i64 0, .int .i64 0]] W fun e w' => e = .returned (.int .i64 14) ∧ Below W.heap.size W w' from
    storeCheck_any ⟨9, ⟨#[]⟩, 0, 0, 0, ⟨0, 0, 0, 0, 0, 0⟩⟩ W ⟨i64_small (by decide), by decide, i64_small (by decide), i64_small (by decide), i64_small (by decide), ⟨i64_small (by decide), i64_small (by decide), i64_small (by decide), i64_small (by decide), i64_small (by decide), i64_small (by decide)⟩⟩)
  go_enter Tryz.func26, Tryz.ntmps26
  go_wp2_with (first
    | (go_at_call 27
       refine CN.out.mono ?_
       rintro e w0 ⟨S, d0, rfl, hd, hb⟩
       have HD0 := Lib.hid hd
       have HB0 := Lib.hid hb.size
       have HU0 := Lib.hid (show Upd w w0 [] (d0.fp S) from ⟨hb.os, hb.tape, hb.output, hb.size, fun r hr _ => hb.block r hr, fun r hr => .inr (hd.at_.fpLt r hr).2⟩)
       have HF0 := Lib.hid (show ∀ r ∈ d0.fp S, w.heap.size ≤ r from fun r hr => (hd.at_.fpLt r hr).2)
       clear hd hb)
    | (go_at_call 28
       refine calls_named ?_
       intro W6 hW6
       have hb6 : Below w5.heap.size w5 W6 := by rw [hW6]; repeat (first | exact Below.refl _ _ | refine balloc ?_ _)
       have hx5 : W6.heap[w5.heap.size]? = some (.cells #[.int .i64 0, .int .i64 0, .int .i64 0, .int .i64 0, .int .i64 0, .int .i64 0, .int .i64 0, .int .i64 0, .int .i64 0, .int .i64 0, .int .i64 0, .int .i64 0, .int .i64 0] 46 (0, 0)) := by rw [hW6]; exact heap_alloc_new _ _
       have hK5 : Kept W6 (d5.fp S) w5.heap.size (.cells #[.int .i64 0, .int .i64 0, .int .i64 0, .int .i64 0, .int .i64 0, .int .i64 0, .int .i64 0, .int .i64 0, .int .i64 0, .int .i64 0, .int .i64 0, .int .i64 0, .int .i64 0] 46 (0, 0)) := ⟨hx5, fun hq => by have := (HD5.out.at_.fpLt _ hq).1; omega⟩
       clear hW6
       with_reducible refine (dA6 (HD5.out.below hb6) (fun b hb => Nat.le_trans HB5.out (Nat.le_trans hb6.size hb))).mono ?_
       rintro e w6 ⟨d6, rfl, hd, hu⟩
       have HD6 := Lib.hid hd
       have HB6 := Lib.hid (Nat.le_trans HB5.out (Nat.le_trans hb6.size hu.size))
       have HU6 := Lib.hid (HU5.out.trans ((Upd.of_below hb6 _).trans hu))
       have HK2_6 := Lib.hid ((HK2_5.out.below hb6).upd hu)
       have HK4_6 := Lib.hid ((HK4_5.out.below hb6).upd hu)
       have HK5_6 := Lib.hid (hK5.upd hu)
       obtain ⟨p2, pf2, pl2⟩ := box_cells (Below.refl _ _) HK2_6.out.at_
       obtain ⟨p4, pf4, pl4⟩ := box_cells (Below.refl _ _) HK4_6.out.at_
       obtain ⟨p5, pf5, pl5⟩ := box_cells (Below.refl _ _) HK5_6.out.at_
       clear hd hu hb6 hx5 hK5)
    | (go_at_call 28
       refine calls_named ?_
       intro W5 hW5
       have hb5 : Below w4.heap.size w4 W5 := by rw [hW5]; repeat (first | exact Below.refl _ _ | refine balloc ?_ _)
       have hx4 : W5.heap[w4.heap.size]? = some (.cells #[.int .i64 0, .int .i64 1, .int .i64 0, .int .i64 1, .int .i64 5, .int .i64 5, .int .i64 5, .int .i64 5, .int .i64 0, .int .i64 0, .int .i64 0, .int .i64 0, .int .i64 0] 46 (0, 0)) := by rw [hW5]; exact heap_alloc_new _ _
       have hK4 : Kept W5 (d4.fp S) w4.heap.size (.cells #[.int .i64 0, .int .i64 1, .int .i64 0, .int .i64 1, .int .i64 5, .int .i64 5, .int .i64 5, .int .i64 5, .int .i64 0, .int .i64 0, .int .i64 0, .int .i64 0, .int .i64 0] 46 (0, 0)) := ⟨hx4, fun hq => by have := (HD4.out.at_.fpLt _ hq).1; omega⟩
       clear hW5
       with_reducible refine (dA5 (HD4.out.below hb5) (fun b hb => Nat.le_trans HB4.out (Nat.le_trans hb5.size hb))).mono ?_
       rintro e w5 ⟨d5, rfl, hd, hu⟩
       have HD5 := Lib.hid hd
       have HB5 := Lib.hid (Nat.le_trans HB4.out (Nat.le_trans hb5.size hu.size))
       have HU5 := Lib.hid (HU4.out.trans ((Upd.of_below hb5 _).trans hu))
       have HK2_5 := Lib.hid ((HK2_4.out.below hb5).upd hu)
       have HK4_5 := Lib.hid (hK4.upd hu)
       clear hd hu hb5 hx4 hK4)
    | (go_at_call 28
       refine calls_named ?_
       intro W4 hW4
       have hb4 : Below w3.heap.size w3 W4 := by rw [hW4]; repeat (first | exact Below.refl _ _ | refine balloc ?_ _)
       clear hW4
       with_reducible refine (dA4 (HD3.out.below hb4) (fun b hb => Nat.le_trans HB3.out (Nat.le_trans hb4.size hb))).mono ?_
       rintro e w4 ⟨d4, rfl, hd, hu⟩
       have HD4 := Lib.hid hd
       have HB4 := Lib.hid (Nat.le_trans HB3.out (Nat.le_trans hb4.size hu.size))
       have HU4 := Lib.hid (HU3.out.trans ((Upd.of_below hb4 _).trans hu))
       have HK2_4 := Lib.hid ((HK2_3.out.below hb4).upd hu)
       clear hd hu hb4)
    | (go_at_call 28
       refine calls_named ?_
       intro W3 hW3
       have hb3 : Below w2.heap.size w2 W3 := by rw [hW3]; repeat (first | exact Below.refl _ _ | refine balloc ?_ _)
       have hx2 : W3.heap[w2.heap.size]? = some (.cells #[.int .i64 0, .int .i64 1, .int .i64 1, .int .i64 0, .int .i64 0, .int .i64 0, .int .i64 0, .int .i64 0, .int .i64 0, .int .i64 0, .int .i64 0, .int .i64 0, .int .i64 0] 46 (0, 0)) := by rw [hW3]; exact heap_alloc_new _ _
       have hK2 : Kept W3 (d2.fp S) w2.heap.size (.cells #[.int .i64 0, .int .i64 1, .int .i64 1, .int .i64 0, .int .i64 0, .int .i64 0, .int .i64 0, .int .i64 0, .int .i64 0, .int .i64 0, .int .i64 0, .int .i64 0, .int .i64 0] 46 (0, 0)) := ⟨hx2, fun hq => by have := (HD2.out.at_.fpLt _ hq).1; omega⟩
       clear hW3
       with_reducible refine (dA3 (HD2.out.below hb3) (fun b hb => Nat.le_trans HB2.out (Nat.le_trans hb3.size hb))).mono ?_
       rintro e w3 ⟨d3, rfl, hd, hu⟩
       have HD3 := Lib.hid hd
       have HB3 := Lib.hid (Nat.le_trans HB2.out (Nat.le_trans hb3.size hu.size))
       have HU3 := Lib.hid (HU2.out.trans ((Upd.of_below hb3 _).trans hu))
       have HK2_3 := Lib.hid (hK2.upd hu)
       clear hd hu hb3 hx2 hK2)
    | (go_at_call 28
       refine calls_named ?_
       intro W2 hW2
       have hb2 : Below w1.heap.size w1 W2 := by rw [hW2]; repeat (first | exact Below.refl _ _ | refine balloc ?_ _)
       clear hW2
       with_reducible refine (dA2 (HD1.out.below hb2) (fun b hb => Nat.le_trans HB1.out (Nat.le_trans hb2.size hb))).mono ?_
       rintro e w2 ⟨d2, rfl, hd, hu⟩
       have HD2 := Lib.hid hd
       have HB2 := Lib.hid (Nat.le_trans HB1.out (Nat.le_trans hb2.size hu.size))
       have HU2 := Lib.hid (HU1.out.trans ((Upd.of_below hb2 _).trans hu))
       clear hd hu hb2)
    | (go_at_call 28
       refine calls_named ?_
       intro W1 hW1
       have hb1 : Below w0.heap.size w0 W1 := by rw [hW1]; repeat (first | exact Below.refl _ _ | refine balloc ?_ _)
       clear hW1
       with_reducible refine (dA1 (HD0.out.below hb1) (fun b hb => Nat.le_trans HB0.out (Nat.le_trans hb1.size hb))).mono ?_
       rintro e w1 ⟨d1, rfl, hd, hu⟩
       have HD1 := Lib.hid hd
       have HB1 := Lib.hid (Nat.le_trans HB0.out (Nat.le_trans hb1.size hu.size))
       have HU1 := Lib.hid (HU0.out.trans ((Upd.of_below hb1 _).trans hu))
       clear hd hu hb1)
    | (go_at_call 42
       refine (CK.out _).mono ?_
       rintro e w7 ⟨rfl, hb7⟩
       have HB7 := Lib.hid hb7
       clear hb7))
  go_ret
  exact ⟨rfl, bthen (bthen (HU6.out.below (Nat.le_refl _) (fun k hk => by cases hk)) (balloc (Below.refl _ _) _)) HB7.out⟩
end

section
set_option linter.unusedSimpArgs false
set_option linter.unusedVariables false
open Go.RowKit Go.Lib

section
variable (id : ByteArray) (tick val handle a b tg tol win hold : Int) (w : World)

end
end

section
set_option linter.unusedSimpArgs false
set_option linter.unusedVariables false
open Go.RowKit Go.Lib

/-! ### Rows of steps -/
end

section
set_option linter.unusedSimpArgs false
set_option linter.unusedVariables false
open Go.RowKit Go.Lib

/-! ### Two boxes that stand while others are made -/
section
variable {w a b : World} {n : Nat} {cs ds : Array Value}
end

section
variable (s : Nat) (sa lo hi : Int) (id : ByteArray) (tick val handle a b tg tol win hold : Int) (w : World)

end
end

section
set_option linter.unusedSimpArgs false
set_option linter.unusedVariables false
open Go.RowKit Go.Lib
end

section
set_option linter.unusedSimpArgs false
set_option linter.unusedVariables false
open Go.RowKit Go.Lib
end

section
set_option linter.unusedSimpArgs false
set_option linter.unusedVariables false
open Go.RowKit Go.Lib

/-! ### Key -/
end

section
set_option linter.unusedSimpArgs false
set_option linter.unusedVariables false
open Go.RowKit Go.Lib
end

end Go.Proofs.YtmniiodpbebnmaaGreat
