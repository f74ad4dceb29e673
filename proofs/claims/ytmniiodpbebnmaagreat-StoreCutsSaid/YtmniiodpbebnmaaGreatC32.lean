/- Walks of a store's Look and Last; Walk of a store's Last. -/
import Derived.Test.YtmniiodpbebnmaaGreatC29
import Derived.Test.YtmniiodpbebnmaaGreatC30
import Derived.Test.YtmniiodpbebnmaaGreatC31
import Derived.Test.YtmniiodpbebnmaaGreatC14
import Derived.Test.YtmniiodpbebnmaaGreatC28
import Derived.Test.YtmniiodpbebnmaaGreatC18
namespace Go.Proofs.YtmniiodpbebnmaaGreat

section
set_option linter.unusedSimpArgs false
set_option linter.unusedVariables false
open Go.RowKit Go.Lib Go.Sort

theorem CutHas.in_ {P : Nat → Prop} {w : World} {C rs rh : Nat} {ep : Int} {R : List Itm} (h : CutHas P w C rs rh ep R) : ∃ l, CutIn w C ep l ∧ Ris l ∧ l.length ≤ 400 ∧ (∃ nd : En → Nd, NodesOf w l nd rs rh ∧ ∀ x ∈ l, ∃ z, findIt R x.1 = some z ∧ sameN (nd x) z) ∧ ∀ k, findE l k = none → findIt R k = none := by
  obtain ⟨A, cc, l, h1, h2, h3, h4, h5, h6, h8⟩ := h
  refine ⟨l, ⟨A, cc, h2, h3.1⟩, h4, h5, ?_, h8⟩
  have hch : ∀ x : En, ∃ y : Nd, x ∈ l → (∃ fp, NodeIn w x.2 y rs rh fp) ∧ ∃ z, findIt R x.1 = some z ∧ sameN y z := fun x => by
    by_cases hx : x ∈ l
    · obtain ⟨y, fp, z, a, _, e, f⟩ := h6 x hx
      exact ⟨y, fun _ => ⟨⟨fp, a⟩, z, e, f⟩⟩
    · exact ⟨nd0, fun h => absurd h hx⟩
  obtain ⟨nd, hnd⟩ := Classical.axiomOfChoice hch
  exact ⟨nd, fun x hx => (hnd x hx).1, fun x hx => (hnd x hx).2⟩
/-- What a cut's items tell of a key. -/
def stK (R : List Itm) (k : Ky) (til wd : Int) : StD := match findIt R k with | none => st0 | some y => statW y.smp til wd
theorem CutHas.stat {P : Nat → Prop} {w : World} {C rs rh : Nat} {ep : Int} {R : List Itm} (h : CutHas P w C rs rh ep R) (hI : ∀ p ∈ R, smpI p.2.smp) (hrs : rs ≤ 256) (k : Ky) {til wd : Int} (ht : I64 til) (hw : I64 wd) :
    Calls Tryz.prog 155 #[.pointer (some ⟨C, 0, none⟩), .agg #[.int .u64 k.1, .int .u64 k.2], .int .i64 til, .int .i64 wd] w fun e w' => e = .returned (.tuple #[stV (stK R k til wd), .bool (findIt R k).isSome]) ∧ Below w.heap.size w w' := by
  obtain ⟨l, h1, h2, h3, ⟨nd, h4, h5⟩, h6⟩ := h.in_
  have hs : SmpOk l nd := fun x hx => by
    obtain ⟨z, hz, hsame⟩ := h5 x hx
    rw [hsame.1]
    exact hI _ (findIt_mem hz)
  have e : cutSt l nd til wd k = stK R k til wd ∧ (findE l k).isSome = (findIt R k).isSome := by
    unfold cutSt stK
    cases hf : findE l k with
    | none => rw [h6 k hf]; exact ⟨rfl, rfl⟩
    | some N =>
      obtain ⟨z, hz, hsame⟩ := h5 _ (findE_mem hf)
      rw [hz]
      exact ⟨by simp only [hsame.1], rfl⟩
  have := cutStat_any C ep l nd rs rh k til wd w h1 h2 (by omega) h4 hs hrs ht hw
  rw [e.1, e.2] at this
  exact this
theorem CutHas.epoch {P : Nat → Prop} {w : World} {C rs rh : Nat} {ep : Int} {R : List Itm} (h : CutHas P w C rs rh ep R) :
    Calls Tryz.prog 39 #[.pointer (some ⟨C, 0, none⟩)] w fun e w' => e = .returned (.int .i64 ep) ∧ Below w.heap.size w w' := by
  obtain ⟨l, h1, _⟩ := h.in_
  exact cutEpoch_any C ep l w h1
theorem CutHas.below {P : Nat → Prop} {w w' : World} {C rs rh : Nat} {ep : Int} {R : List Itm} (h : CutHas P w C rs rh ep R) (hb : Below w.heap.size w w') : CutHas P w' C rs rh ep R := h.keep hb.size (fun b hp hlt => ⟨hb.block b hlt, hp⟩)

/-- Look, by a number and a key. -/
def lookK (w : Wd) (h : Int) (k : Ky) (til wd : Int) : RepD :=
  if findT (tabW w) h ≠ 0 then repF (findT (tabW w) h)
  else match w.cuts[h.toNat - 1]? with
    | none => repF 5
    | some c => match findIt c.items k with
      | none => repF 5
      | some y => ⟨0, c.ep, 0, statW y.smp til wd, adv0⟩
/-- Last, by a key. -/
def readK (w : Wd) (k : Ky) : RepD := match findIt (allW w) k with
  | none => repF 5
  | some y => match y.past.getLast? with
    | none => repF 0
    | some a => ⟨0, 0, 0, st0, a⟩
section
variable {B : Nat → Prop} {S : Nat} {c : Cfg} {rs rh n : Nat} {wd : Wd} {d : StoD}
set_option maxRecDepth 100000 in
set_option maxHeartbeats 4000000 in
theorem stoLook_any (w : World) (h : StoreAt B w S c rs rh n wd d) (hp0 : 0 < d.sts.length) (hc : wd.cuts.length ≤ 900000) (hep : ∀ q ∈ wd.cuts, 0 ≤ q.ep) (hI : ∀ q ∈ wd.cuts, ∀ p ∈ q.items, smpI p.2.smp) (hrs : rs ≤ 256) (hd : Int) (k : Ky) (til wid : Int) (ht : I64 til) (hw : I64 wid) :
    Calls Tryz.prog 85 #[.pointer (some ⟨S, 0, none⟩), .int .i64 hd, .agg #[.int .u64 k.1, .int .u64 k.2], .int .i64 til, .int .i64 wid] w fun e w' => e = .returned (repV (lookK wd hd k til wid)) ∧ Below w.heap.size w w' := by
  obtain ⟨r, hr⟩ : ∃ r, r = lookK wd hd k til wid := ⟨_, rfl⟩
  rw [← hr]
  by_cases hk : findT (tabW wd) hd = 0
  · obtain ⟨i, hi, rfl⟩ : ∃ i : Nat, i < wd.cuts.length ∧ hd = ((i + 1 : Nat) : Int) := by
      have htl : (tabW wd).length = wd.cuts.length := by simp [tabW]
      have h1 : ¬ (hd < 1 ∨ ((tabW wd).length : Nat) < hd) := fun h9 => by rw [findT_out h9] at hk; cases hk
      exact ⟨hd.toNat - 1, by omega, by omega⟩
    obtain ⟨C, q, e1, e2, e3, e4, e5⟩ : ∃ C q, findM d.live (hdl (i + 1)) = some C ∧ findT (tabW wd) ((i + 1 : Nat) : Int) = 0 ∧ wd.cuts[i]? = some q ∧ q.freed = false ∧ CutHas (fun b => b ∉ d.fp S ∧ B b) w C rs rh q.ep q.items := by
      rcases h.find hc hep i hi with ⟨_, e2⟩ | h9
      · rw [hk] at e2; cases e2
      · exact h9
    have CC := Lib.hid (fun W (hW : Below w.heap.size w W) => stoCut_ok W (h.below hW) hp0 hc hep i hi C e1 hk)
    have hIq := hI q (List.mem_of_getElem? e3)
    have CS := Lib.hid (fun W (hW : Below w.heap.size w W) => (e5.below hW).stat hIq hrs k ht hw)
    have CE := Lib.hid (fun W (hW : Below w.heap.size w W) => (e5.below hW).epoch)
    have hlk : r = match findIt q.items k with | none => repF 5 | some y => ⟨0, q.ep, 0, statW y.smp til wid, adv0⟩ := by
      rw [hr]
      unfold lookK
      rw [if_neg (by rw [hk]; simp), show ((i + 1 : Nat) : Int).toNat - 1 = i by omega, e3]
    generalize ((i + 1 : Nat) : Int) = hd at *
    generalize q.ep = ep at *
    clear h hr hk e1 e2 e3 e4 e5 hc hep hI hIq hi
    unfold stK at CS
    cases hf : findIt q.items k with
    | none =>
      rw [hf] at CS hlk
      have HRR := Lib.hid (show r = repF 5 from hlk)
      have CS2 := Lib.hid (show ∀ W, Below w.heap.size w W → Calls Tryz.prog 155 #[.pointer (some ⟨C, 0, none⟩), .agg #[.int .u64 k.1, .int .u64 k.2], .int .i64 til, .int .i64 wid] W fun e w' => e = .returned (.tuple #[.agg #[.int .i64 0, .int .i64 0, .int .i64 0, .int .i64 0, .int .i64 0], .bool false]) ∧ Below W.heap.size W w' from CS.out)
      clear CS hlk hf CE
      go_enter Tryz.func85, Tryz.ntmps85
      go_wp2_with (first
        | (go_at_call 35
           refine calls_named ?_
           intro W1 hW1
           have HB1 := Lib.hid (show Below w.heap.size w W1 by rw [hW1]; exact balloc (balloc (Below.refl _ _) _) _)
           have HX0 := Lib.hid (show W1.heap[w.heap.size]? = some (.cells #[.int .u64 k.1, .int .u64 k.2] 74 (0, 0)) by rw [hW1]; exact box_old _ _ _)
           have HX1 := Lib.hid (show W1.heap[w.heap.size + 1]? = some (.cells zR.toArray 46 (0, 0)) by rw [hW1]; exact box_new _ _ _)
           clear hW1
           refine (CC.out W1 HB1.out).mono ?_
           rintro e w' ⟨rfl, rfl⟩
           obtain ⟨b1, b2, b3⟩ := box_cells (Below.refl _ _) HX0.out)
        | (go_at_call 155
           refine (CS2.out _ HB1.out).mono ?_
           rintro e w2 ⟨rfl, hb2⟩
           have HB2 := Lib.hid (bthen HB1.out hb2)
           have HX2 := Lib.hid ((hb2.block _ (Array.getElem?_eq_some_iff.1 HX1.out).1).trans HX1.out)
           obtain ⟨y1, y2, y3⟩ := box_cells (Below.refl _ _) HX2.out
           unfold zR at y1
           clear hb2 b1 b2 b3))
      refine post_named ?_
      intro W9 hW9
      have hW9' : W9 = (stor w2 (w.heap.size + 1) 0 (repC (repF 5))).alloc (.cells #[.int .i64 0, .int .i64 0, .int .i64 0, .int .i64 0, .int .i64 0] 42) := hW9
      obtain ⟨s1, s2, s3, s4⟩ := stor_at HX2.out (repC (repF 5)) rfl _ rfl
      have hb9 : Below w.heap.size w W9 := by rw [hW9']; exact balloc (HB2.out.trans (s4 _ (by omega))) _
      obtain ⟨a9, a8, a7⟩ : (∀ j, W9.cell? ⟨w.heap.size + 1, j, none⟩ = ((repC (repF 5)).toArray)[j]?) ∧ (∀ j, W9.frozen? ⟨w.heap.size + 1, j, none⟩ = false) ∧ w.heap.size + 1 < W9.heap.size := by
        rw [hW9']
        exact box_cells (balloc (Below.refl _ _) _) s1
      clear hW9 hW9' s1 s2 s3 s4
      exact bodyPost_ret (v := repV (repF 5)) (by simp [results, Tryz.results85, go_sem, a9, repV, repC, repF, st0, adv0]) rfl ⟨by rw [HRR.out], hb9⟩
    | some y =>
      rw [hf] at CS hlk
      have HRR := Lib.hid (show r = ⟨0, ep, 0, statW y.smp til wid, adv0⟩ from hlk)
      dsimp only at CS
      generalize statW y.smp til wid = st at *
      obtain ⟨s0, s1, s2, s3, s4⟩ := st
      have CS2 := Lib.hid (show ∀ W, Below w.heap.size w W → Calls Tryz.prog 155 #[.pointer (some ⟨C, 0, none⟩), .agg #[.int .u64 k.1, .int .u64 k.2], .int .i64 til, .int .i64 wid] W fun e w' => e = .returned (.tuple #[.agg #[.int .i64 s0, .int .i64 s1, .int .i64 s2, .int .i64 s3, .int .i64 s4], .bool true]) ∧ Below W.heap.size W w' from CS.out)
      clear CS hlk hf
      go_enter Tryz.func85, Tryz.ntmps85
      go_wp2_with (first
        | (go_at_call 35
           refine calls_named ?_
           intro W1 hW1
           have HB1 := Lib.hid (show Below w.heap.size w W1 by rw [hW1]; exact balloc (balloc (Below.refl _ _) _) _)
           have HX0 := Lib.hid (show W1.heap[w.heap.size]? = some (.cells #[.int .u64 k.1, .int .u64 k.2] 74 (0, 0)) by rw [hW1]; exact box_old _ _ _)
           have HX1 := Lib.hid (show W1.heap[w.heap.size + 1]? = some (.cells zR.toArray 46 (0, 0)) by rw [hW1]; exact box_new _ _ _)
           clear hW1
           refine (CC.out W1 HB1.out).mono ?_
           rintro e w' ⟨rfl, rfl⟩
           obtain ⟨b1, b2, b3⟩ := box_cells (Below.refl _ _) HX0.out)
        | (go_at_call 155
           refine (CS2.out _ HB1.out).mono ?_
           rintro e w2 ⟨rfl, hb2⟩
           have HB2 := Lib.hid (bthen HB1.out hb2)
           have HX2 := Lib.hid ((hb2.block _ (Array.getElem?_eq_some_iff.1 HX1.out).1).trans HX1.out)
           clear hb2 b1 b2 b3))
      refine name_world ?_
      intro W3 hW3
      have hb3 : Below w2.heap.size w2 W3 := by rw [hW3]; exact balloc (Below.refl _ _) _
      have HX3 := Lib.hid ((hb3.block _ (Array.getElem?_eq_some_iff.1 HX2.out).1).trans HX2.out)
      have HS3 := Lib.hid (show W3.heap[w2.heap.size]? = some (.cells #[.int .i64 s0, .int .i64 s1, .int .i64 s2, .int .i64 s3, .int .i64 s4] 42 (0, 0)) by rw [hW3]; exact heap_alloc_new _ _)
      have HB3 := Lib.hid (bthen HB2.out hb3)
      clear hW3 hb3
      obtain ⟨c1, c2, c3⟩ := box_cells (Below.refl _ _) HS3.out
      obtain ⟨y1, y2, y3⟩ := box_cells (Below.refl _ _) HX3.out
      unfold zR at y1
      go_region_with (first
        | (go_at_call 39
           refine calls_named ?_
           intro W4 hW4
           have hb4 : Below W3.heap.size W3 W4 := by rw [hW4]; repeat (first | exact Below.refl _ _ | refine balloc ?_ _ | refine Below.drew ?_)
           clear hW4
           refine (CE.out W4 (bthen HB3.out hb4)).mono ?_
           rintro e w5 ⟨rfl, hb5⟩
           have hb45 := bthen hb4 hb5
           obtain ⟨d1, d2, d3⟩ := box_cells hb45 HS3.out
           have HX5 := Lib.hid ((hb45.block _ (Array.getElem?_eq_some_iff.1 HX3.out).1).trans HX3.out)
           obtain ⟨z1, z2, z3⟩ := box_cells (Below.refl _ _) HX5.out
           unfold zR at z1
           have HB5 := Lib.hid (bthen HB3.out hb45)
           clear hb4 hb5 hb45))
      all_goals
        refine then_named ?_
        intro W9 hW9
        have hW9' : W9 = stor w5 (w.heap.size + 1) 0 (repC ⟨0, ep, 0, ⟨s0, s1, s2, s3, s4⟩, adv0⟩) := hW9
        obtain ⟨t1, t2, t3, t4⟩ := stor_at HX5.out (repC ⟨0, ep, 0, ⟨s0, s1, s2, s3, s4⟩, adv0⟩) rfl W9 hW9'
        obtain ⟨a9, a8, a7⟩ := box_cells (Below.refl _ _) t1
        clear hW9 hW9'
        go_wp2
        exact bodyPost_ret (v := repV ⟨0, ep, 0, ⟨s0, s1, s2, s3, s4⟩, adv0⟩) (by simp [results, Tryz.results85, go_sem, a9, repV, repC, adv0]) rfl ⟨by rw [HRR.out], HB5.out.trans (t4 _ (by omega))⟩
  · have CC := Lib.hid (fun W (hW : Below w.heap.size w W) => stoCut_bad W (h.below hW) hp0 hc hep hd hk)
    have hrr : r = repF (findT (tabW wd) hd) := by rw [hr]; unfold lookK; rw [if_pos hk]
    generalize findT (tabW wd) hd = e5 at *
    have HRR := Lib.hid hrr
    have z : ¬ e5 = 0 := hk
    clear h hr hk hc hep hI hrr
    go_enter Tryz.func85, Tryz.ntmps85
    go_wp2_with (first
      | (go_at_call 35
         refine calls_named ?_
         intro W1 hW1
         have HB1 := Lib.hid (show Below w.heap.size w W1 by rw [hW1]; exact balloc (balloc (Below.refl _ _) _) _)
         have HX1 := Lib.hid (show W1.heap[w.heap.size + 1]? = some (.cells zR.toArray 46 (0, 0)) by rw [hW1]; exact box_new _ _ _)
         clear hW1
         refine (CC.out W1 HB1.out).mono ?_
         rintro e w' ⟨rfl, rfl⟩
         obtain ⟨y1, y2, y3⟩ := box_cells (Below.refl _ _) HX1.out
         unfold zR at y1))
    refine post_named ?_
    intro W9 hW9
    have hW9' : W9 = stor w' (w.heap.size + 1) 0 (repC (repF e5)) := hW9
    obtain ⟨s1, s2, s3, s4⟩ := stor_at HX1.out (repC (repF e5)) rfl W9 hW9'
    obtain ⟨a9, a8, a7⟩ := box_cells (Below.refl _ _) s1
    clear hW9 hW9'
    exact bodyPost_ret (v := repV (repF e5)) (by simp [results, Tryz.results85, go_sem, a9, repV, repC, repF, st0, adv0]) rfl ⟨by rw [HRR.out], HB1.out.trans (s4 _ (by omega))⟩
end
end

section
set_option linter.unusedSimpArgs false
set_option linter.unusedVariables false
open Go.RowKit Go.Lib Go.Sort

section
variable {B : Nat → Prop} {S : Nat} {c : Cfg} {rs rh n : Nat} {wd : Wd} {d : StoD}
/-- A key's home. -/
theorem StoreAt.home {w : World} (h : StoreAt B w S c rs rh n wd d) (hl : (d.sts.length : Int) = c.st) (hst : okSt c.st = true) (k : Ky) :
    ∃ (i : Nat) (s : St) (R : List Itm), routeI k.1 k.2 c.st = (i : Int) ∧ d.sts[i]? = some s ∧ wd.st[i]? = some R ∧ StrOk w c rs rh n s R := by
  obtain ⟨h0, h1⟩ := route_lt (hi := k.1) (lo := k.2) hst
  obtain ⟨i, hi⟩ := Int.eq_ofNat_of_zero_le h0
  have hil : i < d.sts.length := by omega
  obtain ⟨R, hR, hk⟩ := h.get (List.getElem?_eq_getElem hil)
  exact ⟨i, _, R, hi, List.getElem?_eq_getElem hil, hR, hk⟩
theorem StrOk.load {w : World} {s : St} {R : List Itm} (h : StrOk w c rs rh n s R) (k : KO) : match findM s.es k with | none => findIt R k.1 = none | some b => ∃ y, findIt R k.1 = some y ∧ sameN b.2.1 y := by
  have := tells_find h.tells k
  rw [ab_find] at this
  cases hf : findM s.es k with
  | none => rw [hf] at this; exact this
  | some b => rw [hf] at this; exact this
theorem getLast_nth {α : Type} {l : List α} (h : 0 < l.length) : l.getLast? = some (l[l.length - 1]'(by omega)) := by
  rw [List.getLast?_eq_getElem?, List.getElem?_eq_getElem (by omega)]

set_option maxRecDepth 100000 in
set_option maxHeartbeats 4000000 in
theorem stoLast_any (w : World) (h : StoreAt B w S c rs rh n wd d) (hl : (d.sts.length : Int) = c.st) (hst : okSt c.st = true) (hh : HomeOk c wd) (hrh : rh ≤ 64) (k : Ky) (hk : k.ok) :
    Calls Tryz.prog 87 #[.pointer (some ⟨S, 0, none⟩), .agg #[.int .u64 k.1, .int .u64 k.2]] w fun e w' => e = .returned (repV (readK wd k)) ∧ Below w.heap.size w w' := by
  obtain ⟨i, s, R, hri, hs, hR, hsk⟩ := h.home hl hst k
  have hbd := okSt_bd _ hst
  obtain ⟨r, hr⟩ : ∃ r, r = readK wd k := ⟨_, rfl⟩
  rw [← hr]
  have hld := load_home hh hR hri
  have CH := Lib.hid (fun W (hW : Below w.heap.size w W) => show Calls Tryz.prog 30 #[.pointer (some ⟨S, 0, none⟩), .agg #[.int .u64 k.1, .int .u64 k.2]] W fun e w' => e = .returned (.int .i64 (i : Nat)) ∧ Below W.heap.size W w' from hri ▸ stoHome_any W (h.below hW) (by omega) hl (by omega) k hk)
  have CS := Lib.hid (fun W (hW : Below w.heap.size w W) => stoStripe_any W (h.below hW) i s hs (by omega))
  have CG := Lib.hid (fun W (hW : Below w.heap.size w W) => sget_any s.T s.M c s.ver s.es rs rh ⟨k, hk⟩ W (hsk.at_.below hW))
  have hfd := hsk.load ⟨k, hk⟩
  rw [← hld] at hfd
  cases hf : findM s.es ⟨k, hk⟩ with
  | none =>
    rw [hf] at hfd CG
    have HRR := Lib.hid (show r = repF 5 by rw [hr]; unfold readK; rw [hfd])
    have CG2 := Lib.hid (show ∀ W, Below w.heap.size w W → Calls Tryz.prog 105 #[.pointer (some ⟨s.T, 0, none⟩), .agg #[.int .u64 k.1, .int .u64 k.2]] W fun e w' => e = .returned (.pointer none) ∧ Below W.heap.size W w' from CG.out)
    clear h hr hs hR hsk hfd hf CG hld hri
    go_enter Tryz.func87, Tryz.ntmps87
    go_wp2_with fail
    refine name_world ?_
    intro W hW
    have HB1 := Lib.hid (show Below w.heap.size w W by rw [hW]; exact balloc (balloc (Below.refl _ _) _) _)
    have HX0 := Lib.hid (show W.heap[w.heap.size]? = some (.cells #[.int .u64 k.1, .int .u64 k.2] 74 (0, 0)) by rw [hW]; exact box_old _ _ _)
    have HX1 := Lib.hid (show W.heap[w.heap.size + 1]? = some (.cells zR.toArray 46 (0, 0)) by rw [hW]; exact box_new _ _ _)
    clear hW
    have rk0 : ∀ U, Below W.heap.size W U → U.cell? ⟨w.heap.size, 0, none⟩ = some (.int .u64 k.1) := fun U hU => (box_cells hU HX0.out).1 0
    have rk1 : ∀ U, Below W.heap.size W U → U.cell? ⟨w.heap.size, 1, none⟩ = some (.int .u64 k.2) := fun U hU => (box_cells hU HX0.out).1 1
    have hS00 : Below W.heap.size W W := Below.refl _ _
    have hS0 : Below W.heap.size W W.drew := hS00.drew
    go_region_held3 (fun U => Below W.heap.size W U)
      (first
        | with_reducible exact hS0
        | with_reducible exact HB7.out
        | with_reducible exact HB5.out
        | with_reducible exact hS00)
      (first
      | (go_at_call 30
         refine (CH.out _ (bthen HB1.out ‹Below W.heap.size W _›)).mono ?_
         rintro e w5 ⟨rfl, hb5⟩
         have HB5 := Lib.hid (bthen ‹Below W.heap.size W _› hb5)
         clear hb5)
      | (go_at_call 32
         refine (CS.out _ (bthen HB1.out ‹Below W.heap.size W _›)).mono ?_
         rintro e w6 ⟨rfl, rfl⟩)
      | (go_at_call 105
         refine (CG2.out _ (bthen HB1.out ‹Below W.heap.size W _›)).mono ?_
         rintro e w7 ⟨rfl, hb7⟩
         have HB7 := Lib.hid (bthen ‹Below W.heap.size W _› hb7)
         clear hb7))
    all_goals
      refine then_named ?_
      intro W8 hW8
      have hb8 : Below W.heap.size W W8 := by rw [hW8]; first | exact HB7.out | exact HB7.out.drew | exact below_drewN HB7.out _
      have HX8 := Lib.hid ((hb8.block _ (Array.getElem?_eq_some_iff.1 HX1.out).1).trans HX1.out)
      have HB8 := Lib.hid (bthen HB1.out hb8)
      obtain ⟨y1, y2, y3⟩ := box_cells (Below.refl _ _) HX8.out
      unfold zR at y1
      clear hW8 hb8 rk0 rk1
      go_wp2
      refine post_named ?_
      intro W9 hW9
      have hW9' : W9 = stor W8 (w.heap.size + 1) 0 (repC (repF 5)) := hW9
      obtain ⟨t1, t2, t3, t4⟩ := stor_at HX8.out (repC (repF 5)) rfl W9 hW9'
      obtain ⟨a9, a8, a7⟩ := box_cells (Below.refl _ _) t1
      clear hW9 hW9'
      exact bodyPost_ret (v := repV (repF 5)) (by simp [results, Tryz.results87, go_sem, a9, repV, repC, repF, st0, adv0]) rfl ⟨by rw [HRR.out], HB8.out.trans (t4 _ (by omega))⟩
  | some b =>
    rw [hf] at hfd CG
    obtain ⟨y, hy, hsame⟩ := hfd
    have hnode := hsk.at_.node _ (find_mem hf)
    have CP := Lib.hid (fun W (hW : Below w.heap.size w W) => nodePast_any b.1 b.2.1 rs rh b.2.2 W (hnode.below hW) hrh)
    have hrr : r = match y.past.getLast? with | none => repF 0 | some a => ⟨0, 0, 0, st0, a⟩ := by rw [hr]; unfold readK; rw [hy]; first | done | rfl
    have hpl : y.past.length ≤ 64 := by rw [← hsame.2.1]; exact Nat.le_trans hnode.ok.past hrh
    rw [hsame.2.1] at CP
    have CG3 := Lib.hid (show ∀ W, Below w.heap.size w W → Calls Tryz.prog 105 #[.pointer (some ⟨s.T, 0, none⟩), .agg #[.int .u64 k.1, .int .u64 k.2]] W fun e w' => e = .returned (.pointer (some ⟨b.1, 0, none⟩)) ∧ Below W.heap.size W w' from CG.out)
    generalize y.past = l at CP hrr hpl
    generalize b.1 = N at CP CG3
    clear h hr hs hR hsk hf CG hld hri hy hsame hnode
    by_cases h0 : 0 < l.length
    · obtain ⟨m, hm⟩ : ∃ m, m = l.length - 1 := ⟨_, rfl⟩
      have hlt : m < l.length := by omega
      have hrr2 : r = ⟨0, 0, 0, st0, l[m]⟩ := by
        rw [hrr, getLast_nth h0]
        simp only [hm]
      have z9 : ¬ ((l.length : Nat) : Int) = 0 := by omega
      have z7 : (((l.length : Nat) : Int) == 0) = false := beq_eq_false_iff_ne.2 z9
      have hw : wrap64 ((m : Nat) : Int) = (m : Nat) := by unfold wrap64; omega
      have hw2 : ((l.length : Nat) - 1 : Int) = (m : Nat) := by omega
      have z1 : (0 : Int) ≤ (m : Int) := by omega
      have z2 : (m : Int) < (l.length : Int) := by omega
      have HLT := Lib.hid hlt
      clear hrr hm h0
      go_enter Tryz.func87, Tryz.ntmps87
      go_wp2_with fail
      refine name_world ?_
      intro W hW
      have HB1 := Lib.hid (show Below w.heap.size w W by rw [hW]; exact balloc (balloc (Below.refl _ _) _) _)
      have HX0 := Lib.hid (show W.heap[w.heap.size]? = some (.cells #[.int .u64 k.1, .int .u64 k.2] 74 (0, 0)) by rw [hW]; exact box_old _ _ _)
      have HX1 := Lib.hid (show W.heap[w.heap.size + 1]? = some (.cells zR.toArray 46 (0, 0)) by rw [hW]; exact box_new _ _ _)
      clear hW
      have rk0 : ∀ U, Below W.heap.size W U → U.cell? ⟨w.heap.size, 0, none⟩ = some (.int .u64 k.1) := fun U hU => (box_cells hU HX0.out).1 0
      have rk1 : ∀ U, Below W.heap.size W U → U.cell? ⟨w.heap.size, 1, none⟩ = some (.int .u64 k.2) := fun U hU => (box_cells hU HX0.out).1 1
      have hS00 : Below W.heap.size W W := Below.refl _ _
      have hS0 : Below W.heap.size W W.drew := hS00.drew
      go_region_held3 (fun U => Below W.heap.size W U)
        (first
          | with_reducible exact hS0
          | with_reducible exact HB7.out
          | with_reducible exact HB5.out
          | with_reducible exact hS00)
        (first
        | (go_at_call 30
           refine (CH.out _ (bthen HB1.out ‹Below W.heap.size W _›)).mono ?_
           rintro e w5 ⟨rfl, hb5⟩
           have HB5 := Lib.hid (bthen ‹Below W.heap.size W _› hb5)
           clear hb5)
        | (go_at_call 32
           refine (CS.out _ (bthen HB1.out ‹Below W.heap.size W _›)).mono ?_
           rintro e w6 ⟨rfl, rfl⟩)
        | (go_at_call 105
           refine (CG3.out _ (bthen HB1.out ‹Below W.heap.size W _›)).mono ?_
           rintro e w7 ⟨rfl, hb7⟩
           have HB7 := Lib.hid (bthen ‹Below W.heap.size W _› hb7)
           clear hb7))
      all_goals
        refine then_named ?_
        intro W8 hW8
        have hb8 : Below W.heap.size W W8 := by rw [hW8]; first | exact HB7.out | exact HB7.out.drew | exact below_drewN HB7.out _
        have HX8 := Lib.hid ((hb8.block _ (Array.getElem?_eq_some_iff.1 HX1.out).1).trans HX1.out)
        have HB8 := Lib.hid (bthen HB1.out hb8)
        obtain ⟨y1, y2, y3⟩ := box_cells (Below.refl _ _) HX8.out
        unfold zR at y1
        clear hW8 hb8 rk0 rk1
        go_wp2_with (first
          | (go_at_call 108
             refine (CP.out W8 HB8.out).mono ?_
             rintro e w9 ⟨A9, c9, fp9, rfl, hr9, _, hb9⟩
             have HB9 := Lib.hid (bthen HB8.out hb9)
             have HX9 := Lib.hid ((hb9.block _ (Array.getElem?_eq_some_iff.1 HX8.out).1).trans HX8.out)
             obtain ⟨y1, y2, y3⟩ := box_cells (Below.refl _ _) HX9.out
             unfold zR at y1
             have HR9 := Lib.hid (hr9.row eAdv)
             obtain ⟨bb, o, hA, hbb, hcc⟩ := HR9.out.at_ HLT.out
             subst hA
             have c0 := hcc 0 _ rfl
             have c1 := hcc 1 _ rfl
             have c2 := hcc 2 _ rfl
             have c3 := hcc 3 _ rfl
             have c4 := hcc 4 _ rfl
             rw [Nat.add_zero] at c0
             have HRR := Lib.hid hrr2
             generalize l[m] = a at c0 c1 c2 c3 c4 HRR
             clear hcc
             clear hr9 hb9))
        refine post_named ?_
        intro W9 hW9
        have hW9' : W9 = stor w9 (w.heap.size + 1) 0 (repC ⟨0, 0, 0, st0, a⟩) := hW9
        obtain ⟨t1, t2, t3, t4⟩ := stor_at HX9.out (repC ⟨0, 0, 0, st0, a⟩) rfl W9 hW9'
        obtain ⟨a9, a8, a7⟩ := box_cells (Below.refl _ _) t1
        clear hW9 hW9'
        exact bodyPost_ret (v := repV ⟨0, 0, 0, st0, a⟩) (by simp [results, Tryz.results87, go_sem, a9, repV, repC, repF, st0, adv0]) rfl ⟨by rw [HRR.out], HB9.out.trans (t4 _ (by omega))⟩
    · have hz : l = [] := List.length_eq_zero_iff.1 (by omega)
      subst hz
      have HRR := Lib.hid (show r = repF 0 from hrr)
      clear hrr h0
      go_enter Tryz.func87, Tryz.ntmps87
      go_wp2_with fail
      refine name_world ?_
      intro W hW
      have HB1 := Lib.hid (show Below w.heap.size w W by rw [hW]; exact balloc (balloc (Below.refl _ _) _) _)
      have HX0 := Lib.hid (show W.heap[w.heap.size]? = some (.cells #[.int .u64 k.1, .int .u64 k.2] 74 (0, 0)) by rw [hW]; exact box_old _ _ _)
      have HX1 := Lib.hid (show W.heap[w.heap.size + 1]? = some (.cells zR.toArray 46 (0, 0)) by rw [hW]; exact box_new _ _ _)
      clear hW
      have rk0 : ∀ U, Below W.heap.size W U → U.cell? ⟨w.heap.size, 0, none⟩ = some (.int .u64 k.1) := fun U hU => (box_cells hU HX0.out).1 0
      have rk1 : ∀ U, Below W.heap.size W U → U.cell? ⟨w.heap.size, 1, none⟩ = some (.int .u64 k.2) := fun U hU => (box_cells hU HX0.out).1 1
      have hS00 : Below W.heap.size W W := Below.refl _ _
      have hS0 : Below W.heap.size W W.drew := hS00.drew
      go_region_held3 (fun U => Below W.heap.size W U)
        (first
          | with_reducible exact hS0
          | with_reducible exact HB7.out
          | with_reducible exact HB5.out
          | with_reducible exact hS00)
        (first
        | (go_at_call 30
           refine (CH.out _ (bthen HB1.out ‹Below W.heap.size W _›)).mono ?_
           rintro e w5 ⟨rfl, hb5⟩
           have HB5 := Lib.hid (bthen ‹Below W.heap.size W _› hb5)
           clear hb5)
        | (go_at_call 32
           refine (CS.out _ (bthen HB1.out ‹Below W.heap.size W _›)).mono ?_
           rintro e w6 ⟨rfl, rfl⟩)
        | (go_at_call 105
           refine (CG3.out _ (bthen HB1.out ‹Below W.heap.size W _›)).mono ?_
           rintro e w7 ⟨rfl, hb7⟩
           have HB7 := Lib.hid (bthen ‹Below W.heap.size W _› hb7)
           clear hb7))
      all_goals
        refine then_named ?_
        intro W8 hW8
        have hb8 : Below W.heap.size W W8 := by rw [hW8]; first | exact HB7.out | exact HB7.out.drew | exact below_drewN HB7.out _
        have HX8 := Lib.hid ((hb8.block _ (Array.getElem?_eq_some_iff.1 HX1.out).1).trans HX1.out)
        have HB8 := Lib.hid (bthen HB1.out hb8)
        obtain ⟨y1, y2, y3⟩ := box_cells (Below.refl _ _) HX8.out
        unfold zR at y1
        clear hW8 hb8 rk0 rk1
        go_wp2_with (first
          | (go_at_call 108
             refine (CP.out W8 HB8.out).mono ?_
             rintro e w9 ⟨A9, c9, fp9, rfl, hr9, _, hb9⟩
             have HB9 := Lib.hid (bthen HB8.out hb9)
             have HX9 := Lib.hid ((hb9.block _ (Array.getElem?_eq_some_iff.1 HX8.out).1).trans HX8.out)
             obtain ⟨y1, y2, y3⟩ := box_cells (Below.refl _ _) HX9.out
             unfold zR at y1
             have HR9 := Lib.hid (hr9.row eAdv)
             skip
             clear hr9 hb9))
        refine post_named ?_
        intro W9 hW9
        have hW9' : W9 = stor w9 (w.heap.size + 1) 0 (repC (repF 0)) := hW9
        obtain ⟨t1, t2, t3, t4⟩ := stor_at HX9.out (repC (repF 0)) rfl W9 hW9'
        obtain ⟨a9, a8, a7⟩ := box_cells (Below.refl _ _) t1
        clear hW9 hW9'
        exact bodyPost_ret (v := repV (repF 0)) (by simp [results, Tryz.results87, go_sem, a9, repV, repC, repF, st0, adv0]) rfl ⟨by rw [HRR.out], HB9.out.trans (t4 _ (by omega))⟩
end
end

end Go.Proofs.YtmniiodpbebnmaaGreat
