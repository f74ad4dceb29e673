/- A store's Do: Trim; calls that are none. -/
import Derived.Test.YtmniiodpbebnmaaGreatJ45
namespace Go.Proofs.YtmniiodpbebnmaaGreat

section
set_option linter.unusedSimpArgs false
set_option linter.unusedVariables false
open Go.RowKit Go.Lib Go.Sort
open Go.ChangeMaps (setBlock)

section
variable {B : Nat → Prop} {S : Nat} {c : Cfg} {rs rh n : Nat} {wd : Wd} {d : StoD}
set_option maxRecDepth 100000 in
set_option maxHeartbeats 4000000 in
theorem stoDo_2 (w : World) (h : StoreAt B w S c rs rh n wd d) (hB : ∀ b, w.heap.size ≤ b → B b) (hc : CfgOk c rs rh) (hi : WdOk c rs rh n wd) (hh : HomeOk c wd) (ht : (allW wd).length ≤ 40) (hn : n ≤ 100) (x : CallD) (hx : x.ok) (h0 : chkC x = 0) (hk : x.kind = 2) :
    Calls Tryz.prog 28 #[.pointer (some ⟨S, 0, none⟩), callV x] w (StoSays B w S c rs rh (n + 1) (d.fp S) (repV (doW c rs rh wd x).2) (doW c rs rh wd x).1) := by
  obtain ⟨kind, id, tick, val, handle, ⟨p0, p1, p2, p3, p4, p5⟩⟩ := x
  dsimp only at hk
  subst hk
  have hst : okSt c.st = true := by have := hc.cfg; unfold cfgB at this; simp only [Bool.and_eq_true] at this; exact this.1
  have hbd := okSt_bd _ hst
  have hl : (d.sts.length : Int) = c.st := by rw [h.len]; exact hi.len
  have hroom := hc.room
  have hid : id.size ≤ maxLen := hx.2.1
  obtain ⟨i, s, R, hri, hs, hR, hsk⟩ := h.home hl hst (keyK id)
  obtain ⟨r, hr⟩ : ∃ r, r = doW c rs rh wd ⟨2, id, tick, val, handle, ⟨p0, p1, p2, p3, p4, p5⟩⟩ := ⟨_, rfl⟩
  rw [← hr]
  have CK := Lib.hid (fun W => show Calls Tryz.prog 42 #[callV ⟨2, id, tick, val, handle, ⟨p0, p1, p2, p3, p4, p5⟩⟩] W fun e w' => e = .returned (.int .i64 0) ∧ Below W.heap.size W w' from h0 ▸ storeCheck_any ⟨2, id, tick, val, handle, ⟨p0, p1, p2, p3, p4, p5⟩⟩ W hx)
  have HST := Lib.hid (fun W (hW : Below w.heap.size w W) => h.avoidX (X := w.heap.size + 1) (Nat.le_succ _) hW)
  have hB1 : ∀ W, Below w.heap.size w W → w.heap.size + 1 < W.heap.size → ∀ b, W.heap.size ≤ b → B b ∧ b ≠ w.heap.size + 1 := fun W hW h1 b hb => ⟨hB b (Nat.le_trans hW.size hb), by omega⟩
  have HB1N := Lib.hid hB1
  have HNF := Lib.hid (show w.heap.size + 1 ∉ d.fp S from fun hq => by have := (h.fpLt _ hq).1; omega)
  have CM := Lib.hid (fun W (hW : Below w.heap.size w W) => stoMade_any W (h.below hW) (by omega))
  obtain ⟨pe, hpe⟩ : ∃ pe : Int, packV id = .tuple #[.agg #[.int .u64 (keyK id).1, .int .u64 (keyK id).2], .int .i64 pe] := by
    unfold packV keyK
    cases idS id with
    | true => exact ⟨0, rfl⟩
    | false => exact ⟨2, rfl⟩
  have CP := Lib.hid (fun W => show Calls Tryz.prog 81 #[.string id] W fun e w' => e = .returned (.tuple #[.agg #[.int .u64 (keyK id).1, .int .u64 (keyK id).2], .int .i64 pe]) ∧ Below W.heap.size W w' from hpe ▸ pack_any id W hid)
  have hkok := keyK_ok id
  have hrr : r = (trimW wd tick, repF 0) := by
    rw [hr]
    unfold doW
    rw [if_neg (by rw [h0]; simp)]
    simp only [show ¬ (2 : Int) = 1 by decide, if_true, if_false]
  have CT := Lib.hid (fun W (t : St) (Rt : List Itm) (ht' : StrOk W c rs rh n t Rt) => strim_any t.T t.M c t.ver t.es rs rh tick W ht'.at_ hroom.r2 hroom.h2 (by have := ht'.grown.len; rw [ab_len] at this; omega) (by have := ht'.ver_; omega) (fun p hp => by have := ht'.grown.vers p hp; omega) (smp_small ht'.at_ hroom.r2))
  have HSL := Lib.hid (show d.sts.length = wd.st.length from h.len)
  have HN := Lib.hid hn
  have HBB := Lib.hid (show ∀ b, w.heap.size ≤ b → b ≠ w.heap.size + 1 → B b ∧ b ≠ w.heap.size + 1 from fun b hb h1 => ⟨hB b hb, h1⟩)
  have hl64 : d.sts.length ≤ 64 := by omega
  have HRR := Lib.hid hrr
  have CH := Lib.hid (fun W (hW : Below w.heap.size w W) => show Calls Tryz.prog 30 #[.pointer (some ⟨S, 0, none⟩), .agg #[.int .u64 (keyK id).1, .int .u64 (keyK id).2]] W fun e w' => e = .returned (.int .i64 (i : Nat)) ∧ Below W.heap.size W w' from hri ▸ stoHome_any W (h.below hW) (by omega) hl (by omega) (keyK id) hkok)
  have CS := Lib.hid (fun W (hW : Below w.heap.size w W) => stoStripe_any W (h.below hW) i s hs (by omega))
  generalize keyK id = k at *
  clear h hc hi hh ht hx h0 hri hs hR hsk hr hpe hB hB1 hst hl hid hroom hbd hrr
  unfold callV
  go_enter Tryz.func28, Tryz.ntmps28
  go_wp2_with (first
    | (go_at_call 42
       refine calls_named ?_
       intro W1 hW1
       have HB1 := Lib.hid (show Below w.heap.size w W1 by rw [hW1]; exact balloc (balloc (Below.refl _ _) _) _)
       have HX0 := Lib.hid (show W1.heap[w.heap.size]? = some (.cells #[.int .i64 2, .string id, .int .i64 tick, .int .i64 val, .int .i64 handle, .int .i64 p0, .int .i64 p1, .int .i64 p2, .int .i64 p3, .int .i64 p4, .int .i64 p5] 37 (0, 0)) by rw [hW1]; exact box_old _ _ _)
       have HX1 := Lib.hid (show W1.heap[w.heap.size + 1]? = some (.cells zR.toArray 46 (0, 0)) by rw [hW1]; exact box_new _ _ _)
       clear hW1
       refine (CK.out W1).mono ?_
       rintro e w2 ⟨rfl, hb2⟩
       have HB2 := Lib.hid (bthen HB1.out hb2)
       have HX02 := Lib.hid ((hb2.block _ (Array.getElem?_eq_some_iff.1 HX0.out).1).trans HX0.out)
       have HX12 := Lib.hid ((hb2.block _ (Array.getElem?_eq_some_iff.1 HX1.out).1).trans HX1.out)
       clear hb2)
    | (go_at_call 80
       refine (CM.out _ HB2.out).mono ?_
       rintro e w3 ⟨rfl, rfl⟩
       obtain ⟨b1, b2, b3⟩ := box_cells (Below.refl _ _) HX02.out)
    | (go_at_call 81
       refine (CP.out _).mono ?_
       rintro e w4 ⟨rfl, hb4⟩
       have HB4 := Lib.hid (bthen HB2.out hb4)
       have HX04 := Lib.hid ((hb4.block _ (Array.getElem?_eq_some_iff.1 HX02.out).1).trans HX02.out)
       have HX14 := Lib.hid ((hb4.block _ (Array.getElem?_eq_some_iff.1 HX12.out).1).trans HX12.out)
       clear hb4 b1 b2 b3)
    | (go_at_call 30
       refine calls_named ?_
       intro W5 hW5
       have hb5 : Below w4.heap.size w4 W5 := by rw [hW5]; exact balloc (Below.refl _ _) _
       have HK5 := Lib.hid (show W5.heap[w4.heap.size]? = some (.cells #[.int .u64 k.1, .int .u64 k.2] 74 (0, 0)) by rw [hW5]; exact heap_alloc_new _ _)
       have HB5 := Lib.hid (bthen HB4.out hb5)
       have HX05 := Lib.hid ((hb5.block _ (Array.getElem?_eq_some_iff.1 HX04.out).1).trans HX04.out)
       have HX15 := Lib.hid ((hb5.block _ (Array.getElem?_eq_some_iff.1 HX14.out).1).trans HX14.out)
       clear hW5 hb5
       refine (CH.out W5 HB5.out).mono ?_
       rintro e w6 ⟨rfl, hb6⟩
       have HB6 := Lib.hid (bthen HB5.out hb6)
       have HX06 := Lib.hid ((hb6.block _ (Array.getElem?_eq_some_iff.1 HX05.out).1).trans HX05.out)
       have HX16 := Lib.hid ((hb6.block _ (Array.getElem?_eq_some_iff.1 HX15.out).1).trans HX15.out)
       have HK6 := Lib.hid ((hb6.block _ (Array.getElem?_eq_some_iff.1 HK5.out).1).trans HK5.out)
       clear hb6)
    | (go_at_call 32
       refine (CS.out _ HB6.out).mono ?_
       rintro e w7 ⟨rfl, rfl⟩
       obtain ⟨b1, b2, b3⟩ := box_cells (Below.refl _ _) HX06.out
       obtain ⟨k1, k2, k3⟩ := box_cells (Below.refl _ _) HK6.out
       obtain ⟨q1, q2, q3⟩ := box_cells (Below.refl _ _) (HST.out _ HB6.out).cell))
  clear CS CH
  have HT0 := Lib.hid (TrimSt.start (HST.out _ HB6.out) tick)
  have HZ0 := Lib.hid (show w.heap.size ∉ d.fp S from fun hq => by have := ((HST.out _ (Below.refl _ _)).fpLt _ hq).1; omega)
  have HLT := Lib.hid (show w.heap.size + 1 < w7.heap.size from (Array.getElem?_eq_some_iff.1 HX16.out).1)
  clear q1 q2 q3 b1 b2 b3 k1 k2 k3
  go_loopg [51] d.sts.length (fun g s51 wr => ∃ (j : Nat) (dk : StoD), j ≤ d.sts.length ∧ d.sts.length - j ≤ g ∧ s51 = .int .i64 j ∧ TrimSt (fun b => B b ∧ b ≠ w.heap.size + 1) w7 wr S c rs rh n wd d dk tick j)
  case atStart => exact ⟨0, d, Nat.zero_le _, Nat.le_refl _, rfl, HT0.out⟩
  case round =>
    obtain ⟨j, dk, hj, hg, rfl, hat⟩ := hrel
    rename World => wr
    have HA := Lib.hid hat
    have hle := hat.eA
    clear hat
    by_cases hlt : j < d.sts.length
    · have hkl : j < dk.sts.length := by omega
      have hs := List.getElem?_eq_getElem hkl
      have z1 : (j : Int) < (d.sts.length : Int) := by omega
      have z2 : (0 : Int) ≤ (j : Int) := by omega
      obtain ⟨bb, o, hA, hbw, hcc⟩ := HA.out.at_.row.1.at_ hkl
      injection hA with hA
      injection hA with e1 e2
      subst e1 e2
      have c1 : wr.cell? ⟨d.A, j, none⟩ = some (.pointer (some ⟨(dk.sts[j]).T, 0, none⟩)) := by
        have := hcc 0 _ rfl
        rw [hle.1] at this
        simpa using this
      have HS := Lib.hid hs
      clear hcc hbw hs
      generalize dk.sts[j] = t at c1 HS
      have hjw : j < wd.st.length := by have := HSL.out; omega
      have htk := HA.out.rest j t _ (Nat.le_refl j) HS.out (List.getElem?_eq_getElem hjw)
      have CI := Lib.hid (CT.out wr t _ htk)
      obtain ⟨b1, b2, b3⟩ := box_cells (Below.refl _ _) (upd_at HA.out.up HZ0.out HX06.out)
      clear htk
      go_wp2_with (first
        | (go_at_call 83
           refine CI.out.mono ?_
           rintro e w8 ⟨es', rfl, h1, h2, h3, h4⟩
           obtain ⟨dk', h5⟩ := HA.out.step (fun b hb => HBB.out b (Nat.le_trans HB6.out.size hb) (by have := HLT.out; omega)) HN.out HS.out h1 h2 h3 h4
           have HA5 := Lib.hid h5
           clear h1 h2 h3 h4 h5))
      go_roundg (d.sts.length - (j + 1))
      case measure => omega
      case rel => exact ⟨j + 1, dk', hlt, Nat.le_refl _, by go_num, HA5.out⟩
    · obtain rfl : j = d.sts.length := by omega
      have z1 : ¬ (d.sts.length : Int) < (d.sts.length : Int) := by omega
      have HX8 := Lib.hid (upd_at HA.out.up HNF.out HX16.out)
      obtain ⟨y1, y2, y3⟩ := box_cells (Below.refl _ _) HX8.out
      unfold zR at y1
      have hfin := HA.out.at_
      rw [HSL.out, trimTo_all] at hfin
      have HD := Lib.hid hfin
      have HU := Lib.hid ((Upd.of_below HB6.out (d.fp S)).trans HA.out.up)
      clear hfin
      go_wp2
      refine post_named ?_
      intro W9 hW9
      have hW9' : W9 = stor wr (w.heap.size + 1) 0 (repC (repF 0)) := hW9
      obtain ⟨t1, t2, t3, t4⟩ := stor_at HX8.out (repC (repF 0)) rfl W9 hW9'
      obtain ⟨a9, a8, a7⟩ := box_cells (Below.refl _ _) t1
      clear hW9 hW9'
      exact bodyPost_ret (v := repV (repF 0)) (by simp [results, Tryz.results28, go_sem, a9, repV, repC, repF, st0, adv0]) rfl (by rw [HRR.out]; exact sto_endX (Nat.le_succ _) HD.out HU.out t2 t3 t4)


set_option maxRecDepth 100000 in
set_option maxHeartbeats 4000000 in
theorem stoDo_bad (w : World) (h : StoreAt B w S c rs rh n wd d) (x : CallD) (hx : x.ok) (h0 : chkC x ≠ 0) :
    Calls Tryz.prog 28 #[.pointer (some ⟨S, 0, none⟩), callV x] w (StoSays B w S c rs rh (n + 1) (d.fp S) (repV (doW c rs rh wd x).2) (doW c rs rh wd x).1) := by
  obtain ⟨r, hr⟩ : ∃ r, r = doW c rs rh wd x := ⟨_, rfl⟩
  rw [← hr]
  have hrr : r = (wd, repF (chkC x)) := by rw [hr]; unfold doW; rw [if_pos h0]
  have CK := Lib.hid (fun W => storeCheck_any x W hx)
  have HST := Lib.hid (fun W (hW : Below w.heap.size w W) => (h.avoidX (X := w.heap.size + 1) (Nat.le_succ _) hW).mono (Nat.le_succ n))
  generalize chkC x = er at *
  have z : ¬ er = 0 := h0
  have HRR := Lib.hid hrr
  obtain ⟨kind, id, tick, val, handle, ⟨p0, p1, p2, p3, p4, p5⟩⟩ := x
  clear h hr hrr h0 hx
  unfold callV at CK ⊢
  dsimp only at CK ⊢
  go_enter Tryz.func28, Tryz.ntmps28
  go_wp2_with (first
    | (go_at_call 42
       refine calls_named ?_
       intro W1 hW1
       have HB1 := Lib.hid (show Below w.heap.size w W1 by rw [hW1]; exact balloc (balloc (Below.refl _ _) _) _)
       have HX1 := Lib.hid (show W1.heap[w.heap.size + 1]? = some (.cells zR.toArray 46 (0, 0)) by rw [hW1]; exact box_new _ _ _)
       clear hW1
       refine (CK.out W1).mono ?_
       rintro e w8 ⟨rfl, hb2⟩
       have HB2 := Lib.hid (bthen HB1.out hb2)
       have HX8 := Lib.hid ((hb2.block _ (Array.getElem?_eq_some_iff.1 HX1.out).1).trans HX1.out)
       obtain ⟨y1, y2, y3⟩ := box_cells (Below.refl _ _) HX8.out
       unfold zR at y1
       clear hb2))
  refine post_named ?_
  intro W9 hW9
  have hW9' : W9 = stor w8 (w.heap.size + 1) 0 (repC (repF er)) := hW9
  obtain ⟨t1, t2, t3, t4⟩ := stor_at HX8.out (repC (repF er)) rfl W9 hW9'
  obtain ⟨a9, a8, a7⟩ := box_cells (Below.refl _ _) t1
  clear hW9 hW9'
  exact bodyPost_ret (v := repV (repF er)) (by simp [results, Tryz.results28, go_sem, a9, repV, repC, repF, st0, adv0]) rfl (by rw [HRR.out]; exact sto_endX (Nat.le_succ _) (HST.out _ HB2.out) (Upd.of_below HB2.out _) t2 t3 t4)


/-- What a store answers, and what it is behind it. -/
theorem stoDo_any (w : World) (h : StoreAt B w S c rs rh n wd d) (hB : ∀ b, w.heap.size ≤ b → B b) (hc : CfgOk c rs rh) (hi : WdOk c rs rh n wd) (hh : HomeOk c wd) (ht : (allW wd).length ≤ 40) (hn : n ≤ 100) (x : CallD) (hx : x.ok) :
    Calls Tryz.prog 28 #[.pointer (some ⟨S, 0, none⟩), callV x] w (StoSays B w S c rs rh (n + 1) (d.fp S) (repV (doW c rs rh wd x).2) (doW c rs rh wd x).1) := by
  by_cases h0 : chkC x = 0
  · rcases chk_kinds x with hk | hk | hk | hk | hk | hk | hk | hk | hk
    · exact stoDo_1 w h hB hc hi hh ht hn x hx h0 hk
    · exact stoDo_2 w h hB hc hi hh ht hn x hx h0 hk
    · exact stoDo_3 w h hB hc hi hh ht hn x hx h0 hk
    · by_cases hf : findT (tabW wd) x.handle = 0
      · exact stoDo_4 w h hB hc hi hh ht hn x hx h0 hk hf
      · exact stoDo_4b w h hB hc hi hh ht hn x hx h0 hk hf
    · exact stoDo_5 w h hB hc hi hh ht hn x hx h0 hk
    · exact stoDo_6 w h hB hc hi hh ht hn x hx h0 hk
    · exact stoDo_7 w h hB hc hi hh ht hn x hx h0 hk
    · cases hf : wd.over with
      | true => exact stoDo_8b w h hB hc hi hh ht hn x hx h0 hk hf
      | false => exact stoDo_8 w h hB hc hi hh ht hn x hx h0 hk hf
    · exfalso
      unfold chkC at h0
      rw [if_pos hk] at h0
      cases h0
  · exact stoDo_bad w h x hx h0
end
end

end Go.Proofs.YtmniiodpbebnmaaGreat
