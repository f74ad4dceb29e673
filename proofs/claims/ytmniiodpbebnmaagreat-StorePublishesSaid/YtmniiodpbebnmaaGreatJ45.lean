/- Walks of a store's Look and Last; All stripes' entries, frozen; cuts of the same items do not differ; what is published (plain). -/
import Derived.Test.YtmniiodpbebnmaaGreatJ41
import Derived.Test.YtmniiodpbebnmaaGreatJ42
import Derived.Test.YtmniiodpbebnmaaGreatJ43
import Derived.Test.YtmniiodpbebnmaaGreatJ17
import Derived.Test.YtmniiodpbebnmaaGreatJ44
import Derived.Test.YtmniiodpbebnmaaGreatJ40
import Derived.Test.YtmniiodpbebnmaaGreatJ35
import Derived.Test.YtmniiodpbebnmaaGreatJ36
namespace Go.Proofs.YtmniiodpbebnmaaGreat

section
set_option linter.unusedSimpArgs false
set_option linter.unusedVariables false
open Go.RowKit Go.Lib Go.Sort

theorem CutHas.in_ {P : Nat → Prop} {w : World} {C rs rh : Nat} {ep : Int} {R : List Itm} (h : CutHas P w C rs rh ep R) : ∃ l, CutIn w C ep l ∧ Ris l ∧ l.length ≤ 400 ∧ (∃ nd : En → Nd, NodesOf w l nd rs rh ∧ ∀ x ∈ l, ∃ z, findIt R x.1 = some z ∧ sameN (nd x) z) ∧ ∀ k, findE l k = none → findIt R k = none := by
  obtain ⟨A, cc, l, h1, h2, h3, h4, h5, h6, h8⟩ := h
  refine ⟨l, ⟨A, cc, h2, h3.1⟩, h4, h5, ?_, h8⟩
  have hch : ∀ x : En, ∃ y : Nd, x ∈ l → (∃ fp, NodeIn w x.2 y rs rh fp) ∧ ∃ z, findIt R x.1 = some z ∧ sameN y z := fun x => by
    by_cases hx : x ∈ l
    · obtain ⟨y, fp, z, a, _, e, f⟩ := h6 x hx
      exact ⟨y, fun _ => ⟨⟨fp, a⟩, z, e, f⟩⟩
    · exact ⟨nd0, fun h => absurd h hx⟩
  obtain ⟨nd, hnd⟩ := Classical.axiomOfChoice hch
  exact ⟨nd, fun x hx => (hnd x hx).1, fun x hx => (hnd x hx).2⟩
/-- What a cut's items tell of a key. -/
def stK (R : List Itm) (k : Ky) (til wd : Int) : StD := match findIt R k with | none => st0 | some y => statW y.smp til wd
theorem CutHas.stat {P : Nat → Prop} {w : World} {C rs rh : Nat} {ep : Int} {R : List Itm} (h : CutHas P w C rs rh ep R) (hI : ∀ p ∈ R, smpI p.2.smp) (hrs : rs ≤ 256) (k : Ky) {til wd : Int} (ht : I64 til) (hw : I64 wd) :
    Calls Tryz.prog 155 #[.pointer (some ⟨C, 0, none⟩), .agg #[.int .u64 k.1, .int .u64 k.2], .int .i64 til, .int .i64 wd] w fun e w' => e = .returned (.tuple #[stV (stK R k til wd), .bool (findIt R k).isSome]) ∧ Below w.heap.size w w' := by
  obtain ⟨l, h1, h2, h3, ⟨nd, h4, h5⟩, h6⟩ := h.in_
  have hs : SmpOk l nd := fun x hx => by
    obtain ⟨z, hz, hsame⟩ := h5 x hx
    rw [hsame.1]
    exact hI _ (findIt_mem hz)
  have e : cutSt l nd til wd k = stK R k til wd ∧ (findE l k).isSome = (findIt R k).isSome := by
    unfold cutSt stK
    cases hf : findE l k with
    | none => rw [h6 k hf]; exact ⟨rfl, rfl⟩
    | some N =>
      obtain ⟨z, hz, hsame⟩ := h5 _ (findE_mem hf)
      rw [hz]
      exact ⟨by simp only [hsame.1], rfl⟩
  have := cutStat_any C ep l nd rs rh k til wd w h1 h2 (by omega) h4 hs hrs ht hw
  rw [e.1, e.2] at this
  exact this
theorem CutHas.epoch {P : Nat → Prop} {w : World} {C rs rh : Nat} {ep : Int} {R : List Itm} (h : CutHas P w C rs rh ep R) :
    Calls Tryz.prog 39 #[.pointer (some ⟨C, 0, none⟩)] w fun e w' => e = .returned (.int .i64 ep) ∧ Below w.heap.size w w' := by
  obtain ⟨l, h1, _⟩ := h.in_
  exact cutEpoch_any C ep l w h1
theorem CutHas.below {P : Nat → Prop} {w w' : World} {C rs rh : Nat} {ep : Int} {R : List Itm} (h : CutHas P w C rs rh ep R) (hb : Below w.heap.size w w') : CutHas P w' C rs rh ep R := h.keep hb.size (fun b hp hlt => ⟨hb.block b hlt, hp⟩)

/-- Look, by a number and a key. -/
def lookK (w : Wd) (h : Int) (k : Ky) (til wd : Int) : RepD :=
  if findT (tabW w) h ≠ 0 then repF (findT (tabW w) h)
  else match w.cuts[h.toNat - 1]? with
    | none => repF 5
    | some c => match findIt c.items k with
      | none => repF 5
      | some y => ⟨0, c.ep, 0, statW y.smp til wd, adv0⟩
/-- Last, by a key. -/
def readK (w : Wd) (k : Ky) : RepD := match findIt (allW w) k with
  | none => repF 5
  | some y => match y.past.getLast? with
    | none => repF 0
    | some a => ⟨0, 0, 0, st0, a⟩
section
variable {B : Nat → Prop} {S : Nat} {c : Cfg} {rs rh n : Nat} {wd : Wd} {d : StoD}
set_option maxRecDepth 100000 in
set_option maxHeartbeats 4000000 in
theorem stoLook_any (w : World) (h : StoreAt B w S c rs rh n wd d) (hp0 : 0 < d.sts.length) (hc : wd.cuts.length ≤ 900000) (hep : ∀ q ∈ wd.cuts, 0 ≤ q.ep) (hI : ∀ q ∈ wd.cuts, ∀ p ∈ q.items, smpI p.2.smp) (hrs : rs ≤ 256) (hd : Int) (k : Ky) (til wid : Int) (ht : I64 til) (hw : I64 wid) :
    Calls Tryz.prog 85 #[.pointer (some ⟨S, 0, none⟩), .int .i64 hd, .agg #[.int .u64 k.1, .int .u64 k.2], .int .i64 til, .int .i64 wid] w fun e w' => e = .returned (repV (lookK wd hd k til wid)) ∧ Below w.heap.size w w' := by
  obtain ⟨r, hr⟩ : ∃ r, r = lookK wd hd k til wid := ⟨_, rfl⟩
  rw [← hr]
  by_cases hk : findT (tabW wd) hd = 0
  · obtain ⟨i, hi, rfl⟩ : ∃ i : Nat, i < wd.cuts.length ∧ hd = ((i + 1 : Nat) : Int) := by
      have htl : (tabW wd).length = wd.cuts.length := by simp [tabW]
      have h1 : ¬ (hd < 1 ∨ ((tabW wd).length : Nat) < hd) := fun h9 => by rw [findT_out h9] at hk; cases hk
      exact ⟨hd.toNat - 1, by omega, by omega⟩
    obtain ⟨C, q, e1, e2, e3, e4, e5⟩ : ∃ C q, findM d.live (hdl (i + 1)) = some C ∧ findT (tabW wd) ((i + 1 : Nat) : Int) = 0 ∧ wd.cuts[i]? = some q ∧ q.freed = false ∧ CutHas (fun b => b ∉ d.fp S ∧ B b) w C rs rh q.ep q.items := by
      rcases h.find hc hep i hi with ⟨_, e2⟩ | h9
      · rw [hk] at e2; cases e2
      · exact h9
    have CC := Lib.hid (fun W (hW : Below w.heap.size w W) => stoCut_ok W (h.below hW) hp0 hc hep i hi C e1 hk)
    have hIq := hI q (List.mem_of_getElem? e3)
    have CS := Lib.hid (fun W (hW : Below w.heap.size w W) => (e5.below hW).stat hIq hrs k ht hw)
    have CE := Lib.hid (fun W (hW : Below w.heap.size w W) => (e5.below hW).epoch)
    have hlk : r = match findIt q.items k with | none => repF 5 | some y => ⟨0, q.ep, 0, statW y.smp til wid, adv0⟩ := by
      rw [hr]
      unfold lookK
      rw [if_neg (by rw [hk]; simp), show ((i + 1 : Nat) : Int).toNat - 1 = i by omega, e3]
    generalize ((i + 1 : Nat) : Int) = hd at *
    generalize q.ep = ep at *
    clear h hr hk e1 e2 e3 e4 e5 hc hep hI hIq hi
    unfold stK at CS
    cases hf : findIt q.items k with
    | none =>
      rw [hf] at CS hlk
      have HRR := Lib.hid (show r = repF 5 from hlk)
      have CS2 := Lib.hid (show ∀ W, Below w.heap.size w W → Calls Tryz.prog 155 #[.pointer (some ⟨C, 0, none⟩), .agg #[.int .u64 k.1, .int .u64 k.2], .int .i64 til, .int .i64 wid] W fun e w' => e = .returned (.tuple #[.agg #[.int .i64 0, .int .i64 0, .int .i64 0, .int .i64 0, .int .i64 0], .bool false]) ∧ Below W.heap.size W w' from CS.out)
      clear CS hlk hf CE
      go_enter Tryz.func85, Tryz.ntmps85
      go_wp2_with (first
        | (go_at_call 35
           refine calls_named ?_
           intro W1 hW1
           have HB1 := Lib.hid (show Below w.heap.size w W1 by rw [hW1]; exact balloc (balloc (Below.refl _ _) _) _)
           have HX0 := Lib.hid (show W1.heap[w.heap.size]? = some (.cells #[.int .u64 k.1, .int .u64 k.2] 74 (0, 0)) by rw [hW1]; exact box_old _ _ _)
           have HX1 := Lib.hid (show W1.heap[w.heap.size + 1]? = some (.cells zR.toArray 46 (0, 0)) by rw [hW1]; exact box_new _ _ _)
           clear hW1
           refine (CC.out W1 HB1.out).mono ?_
           rintro e w' ⟨rfl, rfl⟩
           obtain ⟨b1, b2, b3⟩ := box_cells (Below.refl _ _) HX0.out)
        | (go_at_call 155
           refine (CS2.out _ HB1.out).mono ?_
           rintro e w2 ⟨rfl, hb2⟩
           have HB2 := Lib.hid (bthen HB1.out hb2)
           have HX2 := Lib.hid ((hb2.block _ (Array.getElem?_eq_some_iff.1 HX1.out).1).trans HX1.out)
           obtain ⟨y1, y2, y3⟩ := box_cells (Below.refl _ _) HX2.out
           unfold zR at y1
           clear hb2 b1 b2 b3))
      refine post_named ?_
      intro W9 hW9
      have hW9' : W9 = (stor w2 (w.heap.size + 1) 0 (repC (repF 5))).alloc (.cells #[.int .i64 0, .int .i64 0, .int .i64 0, .int .i64 0, .int .i64 0] 42) := hW9
      obtain ⟨s1, s2, s3, s4⟩ := stor_at HX2.out (repC (repF 5)) rfl _ rfl
      have hb9 : Below w.heap.size w W9 := by rw [hW9']; exact balloc (HB2.out.trans (s4 _ (by omega))) _
      obtain ⟨a9, a8, a7⟩ : (∀ j, W9.cell? ⟨w.heap.size + 1, j, none⟩ = ((repC (repF 5)).toArray)[j]?) ∧ (∀ j, W9.frozen? ⟨w.heap.size + 1, j, none⟩ = false) ∧ w.heap.size + 1 < W9.heap.size := by
        rw [hW9']
        exact box_cells (balloc (Below.refl _ _) _) s1
      clear hW9 hW9' s1 s2 s3 s4
      exact bodyPost_ret (v := repV (repF 5)) (by simp [results, Tryz.results85, go_sem, a9, repV, repC, repF, st0, adv0]) rfl ⟨by rw [HRR.out], hb9⟩
    | some y =>
      rw [hf] at CS hlk
      have HRR := Lib.hid (show r = ⟨0, ep, 0, statW y.smp til wid, adv0⟩ from hlk)
      dsimp only at CS
      generalize statW y.smp til wid = st at *
      obtain ⟨s0, s1, s2, s3, s4⟩ := st
      have CS2 := Lib.hid (show ∀ W, Below w.heap.size w W → Calls Tryz.prog 155 #[.pointer (some ⟨C, 0, none⟩), .agg #[.int .u64 k.1, .int .u64 k.2], .int .i64 til, .int .i64 wid] W fun e w' => e = .returned (.tuple #[.agg #[.int .i64 s0, .int .i64 s1, .int .i64 s2, .int .i64 s3, .int .i64 s4], .bool true]) ∧ Below W.heap.size W w' from CS.out)
      clear CS hlk hf
      go_enter Tryz.func85, Tryz.ntmps85
      go_wp2_with (first
        | (go_at_call 35
           refine calls_named ?_
           intro W1 hW1
           have HB1 := Lib.hid (show Below w.heap.size w W1 by rw [hW1]; exact balloc (balloc (Below.refl _ _) _) _)
           have HX0 := Lib.hid (show W1.heap[w.heap.size]? = some (.cells #[.int .u64 k.1, .int .u64 k.2] 74 (0, 0)) by rw [hW1]; exact box_old _ _ _)
           have HX1 := Lib.hid (show W1.heap[w.heap.size + 1]? = some (.cells zR.toArray 46 (0, 0)) by rw [hW1]; exact box_new _ _ _)
           clear hW1
           refine (CC.out W1 HB1.out).mono ?_
           rintro e w' ⟨rfl, rfl⟩
           obtain ⟨b1, b2, b3⟩ := box_cells (Below.refl _ _) HX0.out)
        | (go_at_call 155
           refine (CS2.out _ HB1.out).mono ?_
           rintro e w2 ⟨rfl, hb2⟩
           have HB2 := Lib.hid (bthen HB1.out hb2)
           have HX2 := Lib.hid ((hb2.block _ (Array.getElem?_eq_some_iff.1 HX1.out).1).trans HX1.out)
           clear hb2 b1 b2 b3))
      refine name_world ?_
      intro W3 hW3
      have hb3 : Below w2.heap.size w2 W3 := by rw [hW3]; exact balloc (Below.refl _ _) _
      have HX3 := Lib.hid ((hb3.block _ (Array.getElem?_eq_some_iff.1 HX2.out).1).trans HX2.out)
      have HS3 := Lib.hid (show W3.heap[w2.heap.size]? = some (.cells #[.int .i64 s0, .int .i64 s1, .int .i64 s2, .int .i64 s3, .int .i64 s4] 42 (0, 0)) by rw [hW3]; exact heap_alloc_new _ _)
      have HB3 := Lib.hid (bthen HB2.out hb3)
      clear hW3 hb3
      obtain ⟨c1, c2, c3⟩ := box_cells (Below.refl _ _) HS3.out
      obtain ⟨y1, y2, y3⟩ := box_cells (Below.refl _ _) HX3.out
      unfold zR at y1
      go_region_with (first
        | (go_at_call 39
           refine calls_named ?_
           intro W4 hW4
           have hb4 : Below W3.heap.size W3 W4 := by rw [hW4]; repeat (first | exact Below.refl _ _ | refine balloc ?_ _ | refine Below.drew ?_)
           clear hW4
           refine (CE.out W4 (bthen HB3.out hb4)).mono ?_
           rintro e w5 ⟨rfl, hb5⟩
           have hb45 := bthen hb4 hb5
           obtain ⟨d1, d2, d3⟩ := box_cells hb45 HS3.out
           have HX5 := Lib.hid ((hb45.block _ (Array.getElem?_eq_some_iff.1 HX3.out).1).trans HX3.out)
           obtain ⟨z1, z2, z3⟩ := box_cells (Below.refl _ _) HX5.out
           unfold zR at z1
           have HB5 := Lib.hid (bthen HB3.out hb45)
           clear hb4 hb5 hb45))
      all_goals
        refine then_named ?_
        intro W9 hW9
        have hW9' : W9 = stor w5 (w.heap.size + 1) 0 (repC ⟨0, ep, 0, ⟨s0, s1, s2, s3, s4⟩, adv0⟩) := hW9
        obtain ⟨t1, t2, t3, t4⟩ := stor_at HX5.out (repC ⟨0, ep, 0, ⟨s0, s1, s2, s3, s4⟩, adv0⟩) rfl W9 hW9'
        obtain ⟨a9, a8, a7⟩ := box_cells (Below.refl _ _) t1
        clear hW9 hW9'
        go_wp2
        exact bodyPost_ret (v := repV ⟨0, ep, 0, ⟨s0, s1, s2, s3, s4⟩, adv0⟩) (by simp [results, Tryz.results85, go_sem, a9, repV, repC, adv0]) rfl ⟨by rw [HRR.out], HB5.out.trans (t4 _ (by omega))⟩
  · have CC := Lib.hid (fun W (hW : Below w.heap.size w W) => stoCut_bad W (h.below hW) hp0 hc hep hd hk)
    have hrr : r = repF (findT (tabW wd) hd) := by rw [hr]; unfold lookK; rw [if_pos hk]
    generalize findT (tabW wd) hd = e5 at *
    have HRR := Lib.hid hrr
    have z : ¬ e5 = 0 := hk
    clear h hr hk hc hep hI hrr
    go_enter Tryz.func85, Tryz.ntmps85
    go_wp2_with (first
      | (go_at_call 35
         refine calls_named ?_
         intro W1 hW1
         have HB1 := Lib.hid (show Below w.heap.size w W1 by rw [hW1]; exact balloc (balloc (Below.refl _ _) _) _)
         have HX1 := Lib.hid (show W1.heap[w.heap.size + 1]? = some (.cells zR.toArray 46 (0, 0)) by rw [hW1]; exact box_new _ _ _)
         clear hW1
         refine (CC.out W1 HB1.out).mono ?_
         rintro e w' ⟨rfl, rfl⟩
         obtain ⟨y1, y2, y3⟩ := box_cells (Below.refl _ _) HX1.out
         unfold zR at y1))
    refine post_named ?_
    intro W9 hW9
    have hW9' : W9 = stor w' (w.heap.size + 1) 0 (repC (repF e5)) := hW9
    obtain ⟨s1, s2, s3, s4⟩ := stor_at HX1.out (repC (repF e5)) rfl W9 hW9'
    obtain ⟨a9, a8, a7⟩ := box_cells (Below.refl _ _) s1
    clear hW9 hW9'
    exact bodyPost_ret (v := repV (repF e5)) (by simp [results, Tryz.results85, go_sem, a9, repV, repC, repF, st0, adv0]) rfl ⟨by rw [HRR.out], HB1.out.trans (s4 _ (by omega))⟩
end
end

section
set_option linter.unusedSimpArgs false
set_option linter.unusedVariables false
open Go.RowKit Go.Lib Go.Sort

section
variable {B : Nat → Prop} {S : Nat} {c : Cfg} {rs rh n : Nat} {wd : Wd} {d : StoD}
def PartsSays (B : Nat → Prop) (w : World) (S : Nat) (c : Cfg) (rs rh n : Nat) (wd : Wd) (d : StoD) (e : Ending) (w' : World) : Prop :=
  ∃ A m cc dk, e = .returned (.slice A m cc) ∧ StoreAt B w' S c rs rh n wd dk ∧ PubIn w' (.slice A m cc) dk ∧ Upd w w' (d.fp S) (dk.fp S) ∧ dk.sts.length = d.sts.length
set_option maxRecDepth 100000 in
set_option maxHeartbeats 4000000 in
theorem parts_any (w : World) (h : StoreAt B w S c rs rh n wd d) (hp0 : 0 < d.sts.length) (hl : d.sts.length ≤ 64) (ht : (allW wd).length ≤ 1000000) (hn : n ≤ 1000) :
    Calls Tryz.prog 38 #[.pointer (some ⟨S, 0, none⟩)] w (PartsSays B w S c rs rh n wd d) := by
  have H := Lib.hid h
  have HT := Lib.hid ht
  have HSN := Lib.hid (SnapAt.start h)
  have CC := Lib.hid (stoCount_any w h hp0)
  clear h ht
  go_enter Tryz.func38, Tryz.ntmps38
  go_wp2_with (first
    | (go_at_call 29
       refine CC.out.mono ?_
       rintro e w0 ⟨rfl, rfl⟩))
  go_loopg [3, 7] d.sts.length (fun g s3 s7 wr => ∃ (k : Nat) (dk : StoD) (ps : List PartE), k ≤ d.sts.length ∧ d.sts.length - k ≤ g ∧ s7 = .int .i64 k ∧ SnapAt B w0 wr S c rs rh n wd d dk k s3 ps)
  case atStart => exact ⟨0, d, [], Nat.zero_le _, Nat.le_refl _, rfl, HSN.out⟩
  case round =>
    obtain ⟨k, dk, ps, hk, hg, rfl, hat⟩ := hrel
    rename World => wr
    obtain ⟨A3, c3, rfl⟩ := hat.own.form
    have HA := Lib.hid hat
    have hle := hat.eA
    clear hat
    by_cases hlt : k < d.sts.length
    · have hkl : k < dk.sts.length := by omega
      have hs := List.getElem?_eq_getElem hkl
      have z1 : (k : Int) < (d.sts.length : Int) := by omega
      have HS := Lib.hid hs
      clear hs
      generalize dk.sts[k] = s at HS
      obtain ⟨R, hR, hsk⟩ := HA.out.at_.get HS.out
      have CS := Lib.hid (stoStripe_any wr HA.out.at_ k s HS.out (by omega))
      have hes : s.es.length ≤ 1000 := by
        have := hsk.grown.len
        rw [ab_len] at this
        omega
      have HF := Lib.hid (show Calls Tryz.prog 97 #[.pointer (some ⟨s.T, 0, none⟩)] wr fun e w' => ∃ A cc, e = .returned (.slice A (entE s.es).length cc) ∧ OwnL enC 246 3 wr.heap.size w' (.slice A (entE s.es).length cc) (entE s.es) ∧
          SAt w' s.T s.M c s.ver (frzE s.es (risL (kyN s.es))) rs rh ∧ Upd wr w' s.fp (sfp s.T s.M (frzE s.es (risL (kyN s.es)))) from (sfreeze_any s.T s.M c s.ver s.es rs rh wr hsk.at_ hes).mono (by
        rintro e w' ⟨A, cc, rfl, h1, h2, h3⟩
        have e9 : (entE s.es).length = (risL (kyN s.es)).length := by simp [entE]
        refine ⟨A, cc, by rw [e9], ?_, h2, h3⟩
        rw [e9]
        exact h1))
      clear hsk hR hes
      have HPL := Lib.hid HA.out.len
      have hup := HA.out.up.size
      go_wp2_with (first
        | (go_at_call 32
           refine CS.out.mono ?_
           rintro e w4 ⟨rfl, rfl⟩)
        | (go_at_call 97
           refine HF.out.mono ?_
           rintro e w5 ⟨A5, c5, rfl, ho5, hs5, hu5⟩
           have HO5 := Lib.hid ho5
           have HS5 := Lib.hid hs5
           have HU5 := Lib.hid hu5
           have h5s := hu5.size
           have HW5 := Lib.hid (HA.out.own.kept (w' := w5) (fun r hr => hu5.block r (HA.out.own.lt hr).2 (fun hq => by have := HA.out.low r (mem_fp.2 (.inr (.inr (.inr ⟨s, List.mem_of_getElem? HS.out, hq⟩)))); have := (HA.out.own.lt hr).1; omega)))
           clear ho5 hs5 hu5)
        | (at_builtin
           refine wpList_appendL ePart (by rfl) (by rfl) w0.heap.size ps [(A5, c5, soE (entE s.es))] _ _ (by rfl) (by rfl) (HW5.out.below (balloc (Below.refl _ _) _)) (RowIn.lit w5 _ _ _ _ rfl (by simp [partC, soE_len])) (by have := HPL.out; simp; omega) (by simp; omega) ?_
           intro out2 A2 c2' w2 hout2 hown2 hg2 hblk2
           have HOWN := Lib.hid hown2
           have HOUT := Lib.hid hout2
           have HG := Lib.hid hg2
           have HBK := Lib.hid hblk2
           clear hown2 hout2 hg2 hblk2))
      go_roundg (d.sts.length - (k + 1))
      case measure => omega
      case rel =>
        have hout := HOUT.out
        subst hout
        exact ⟨k + 1, _, _, hlt, Nat.le_refl _, by go_num, HA.out.step HS.out HS5.out HU5.out HO5.out (balloc (Below.refl _ _) _) HG.out HBK.out HOWN.out⟩
    · obtain rfl : k = d.sts.length := by omega
      have z1 : ¬ (d.sts.length : Int) < (d.sts.length : Int) := by omega
      go_wp2
      go_ret
      exact ⟨_, _, _, dk, rfl, HA.out.all, HA.out.pub hl HT.out, HA.out.up, HA.out.eA.2.2⟩
end

theorem CutHas.in_0 {P : Nat → Prop} {w : World} {C rs rh : Nat} {ep : Int} {R : List Itm} (h : CutHas P w C rs rh ep R) : ∃ l, CutIn w C ep l ∧ Ris l ∧ l.length ≤ 400 ∧ (∃ nd : En → Nd, NodesOf w l nd rs rh ∧ (∀ x ∈ l, ∃ z, findIt R x.1 = some z ∧ sameN (nd x) z) ∧ ∀ x, x ∉ l → nd x = nd0) ∧ ∀ k, findE l k = none → findIt R k = none := by
  obtain ⟨A, cc, l, h1, h2, h3, h4, h5, h6, h8⟩ := h
  refine ⟨l, ⟨A, cc, h2, h3.1⟩, h4, h5, ?_, h8⟩
  have hch : ∀ x : En, ∃ y : Nd, (x ∈ l → (∃ fp, NodeIn w x.2 y rs rh fp) ∧ ∃ z, findIt R x.1 = some z ∧ sameN y z) ∧ (x ∉ l → y = nd0) := fun x => by
    by_cases hx : x ∈ l
    · obtain ⟨y, fp, z, a, _, e, f⟩ := h6 x hx
      exact ⟨y, fun _ => ⟨⟨fp, a⟩, z, e, f⟩, fun h => absurd hx h⟩
    · exact ⟨nd0, fun h => absurd h hx, fun _ => rfl⟩
  obtain ⟨nd, hnd⟩ := Classical.axiomOfChoice hch
  exact ⟨nd, fun x hx => ((hnd x).1 hx).1, fun x hx => ((hnd x).1 hx).2, fun x hx => (hnd x).2 hx⟩
/-- Two cuts that tell the same items do not differ. -/
theorem cut_differ {P : Nat → Prop} {w : World} {C1 C2 rs rh : Nat} {e1 e2 : Int} {R : List Itm} (h1 : CutHas P w C1 rs rh e1 R) (h2 : CutHas P w C2 rs rh e2 R) (hrs : rs ≤ 256) (hrh : rh ≤ 64) :
    Calls Tryz.prog 40 #[.pointer (some ⟨C1, 0, none⟩), .pointer (some ⟨C2, 0, none⟩)] w fun e w' => ∃ A c, e = .returned (.slice A 0 c) ∧ Below w.heap.size w w' := by
  obtain ⟨l1, a1, a2, a3, ⟨nd, a4, a5, a6⟩, a7⟩ := h1.in_0
  obtain ⟨l2, b1, b2, b3, ⟨md, b4, b5, b6⟩, b7⟩ := h2.in_0
  have hz : ∀ {l : List En} {f : En → Nd}, NodesOf w l f rs rh → (∀ x, x ∉ l → f x = nd0) → ∀ x, (f x).smp.length ≤ 1000000 ∧ (f x).past.length ≤ 1000000 := fun {l f} hn h0 x => by
    by_cases hx : x ∈ l
    · obtain ⟨fp, hx⟩ := hn x hx
      have := hx.ok.len
      have := hx.ok.past
      omega
    · rw [h0 x hx]
      exact ⟨Nat.zero_le _, Nat.zero_le _⟩
  have hd : ∀ k, diffB l1 l2 nd md k = false := fun k => by
    unfold diffB diffO
    cases f1 : findE l1 k with
    | none =>
      cases f2 : findE l2 k with
      | none => rfl
      | some N =>
        obtain ⟨z, hz, _⟩ := b5 _ (findE_mem f2)
        rw [a7 k f1] at hz
        cases hz
    | some M =>
      obtain ⟨z, hz, hs⟩ := a5 _ (findE_mem f1)
      cases f2 : findE l2 k with
      | none => rw [b7 k f2] at hz; cases hz
      | some N =>
        obtain ⟨z2, hz2, hs2⟩ := b5 _ (findE_mem f2)
        dsimp only at hz hz2
        rw [hz] at hz2
        injection hz2 with hz2
        subst hz2
        simp only [Bool.not_eq_false']
        rw [alikeN_same hs hs2]
        exact alikeN_self z
  refine (differ_any C1 C2 e1 e2 l1 l2 nd md rs rh w a1 b1 a2 b2 (by omega) (by omega) a4 b4 hrs hrh (fun x => ⟨hz a4 a6 x, hz b4 b6 x⟩)).mono ?_
  rintro e w' ⟨A, cc, rfl, _, hb⟩
  have e0 : (risL (risL (l1.map (·.1)) ++ risL (l2.map (·.1)))).filter (diffB l1 l2 nd md) = [] := by
    rw [List.filter_eq_nil_iff]
    intro k _
    rw [hd k]
    simp
  rw [e0]
  exact ⟨A, cc, rfl, hb⟩

/-! ### What is published -/
def pubW (wd : Wd) (k : Nat) : Wd := { wd with ep := (k : Nat), cuts := (List.range k).map fun j => ⟨((j + 1 : Nat) : Int), allW wd, false⟩ }
theorem pubW_zero {wd : Wd} (h : wd.cuts = [] ∧ wd.ep = 0) : pubW wd 0 = wd := by
  obtain ⟨st, cuts, ep, over⟩ := wd
  obtain ⟨h1, h2⟩ := h
  dsimp only at h1 h2
  subst h1 h2
  rfl
theorem pubW_succ (wd : Wd) (k : Nat) : ({ pubW wd k with ep := (pubW wd k).ep + 1, cuts := (pubW wd k).cuts ++ [⟨(pubW wd k).ep + 1, allW (pubW wd k), false⟩] } : Wd) = pubW wd (k + 1) := by
  unfold pubW
  rw [List.range_succ, List.map_append]
  simp [allW]
theorem pubW_len (wd : Wd) (k : Nat) : (pubW wd k).cuts.length = k := by simp [pubW]
theorem pubW_live (wd : Wd) (k : Nat) : liveT (tabW (pubW wd k)) = k := by
  unfold liveT tabW pubW
  rw [List.map_map, List.countP_eq_length.2]
  · simp
  · intro a ha
    obtain ⟨j, _, rfl⟩ := List.mem_map.1 ha
    simp
    omega
theorem pubW_ep (wd : Wd) (k : Nat) : ∀ q ∈ (pubW wd k).cuts, 0 ≤ q.ep := by
  intro q hq
  obtain ⟨j, _, rfl⟩ := List.mem_map.1 hq
  dsimp only
  omega
theorem pubW_home {c : Cfg} {wd : Wd} (h : HomeOk c wd) (k : Nat) : HomeOk c (pubW wd k) := h
theorem StoreAt.pub {B : Nat → Prop} {w : World} {S : Nat} {c : Cfg} {rs rh n : Nat} {wd : Wd} {d : StoD} {k : Nat} (h : StoreAt B w S c rs rh n (pubW wd k) d) (hk : k ≤ 900000) {i : Nat} (hi : i < k) :
    ∃ C, findM d.live (hdl (i + 1)) = some C ∧ findT (tabW (pubW wd k)) ((i + 1 : Nat) : Int) = 0 ∧ CutHas (fun b => b ∉ d.fp S ∧ B b) w C rs rh ((i + 1 : Nat) : Int) (allW wd) := by
  have hq : (pubW wd k).cuts[i]? = some ⟨((i + 1 : Nat) : Int), allW wd, false⟩ := by
    unfold pubW
    rw [List.getElem?_map, List.getElem?_range hi]
    rfl
  rcases h.cut i _ hq with ⟨h1, _⟩ | ⟨_, C, h2, h3⟩
  · cases h1
  · refine ⟨C, h2, ?_, h3⟩
    rcases h.find (by rw [pubW_len]; exact hk) (pubW_ep wd k) i (by rw [pubW_len]; exact hi) with ⟨h4, _⟩ | ⟨C', q', h4, h5, _⟩
    · rw [h2] at h4; cases h4
    · exact h5
/-- Calls that open no cut, and free none, leave the cuts. -/
theorem doW_cuts {c : Cfg} {rs rh : Nat} {wd : Wd} {x : CallD} (h3 : x.kind ≠ 3) (h4 : x.kind ≠ 4) (h : wd.cuts = [] ∧ wd.ep = 0) : (doW c rs rh wd x).1.cuts = [] ∧ (doW c rs rh wd x).1.ep = 0 := by
  unfold doW
  split
  · exact h
  · split
    · exact h
    · split
      · exact h
      · split
        · exact h
        · split
          · exact h
          · split
            · exact h
            · split
              · exact h
              · exact h
end

end Go.Proofs.YtmniiodpbebnmaaGreat
