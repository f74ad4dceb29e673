/- Walk of a store's Last; Acts on a store's stripes: the frames. -/
import Derived.Test.YtmniiodpbebnmaaGreatJ45
import Derived.Test.YtmniiodpbebnmaaGreatJ40
import Derived.Test.YtmniiodpbebnmaaGreatJ23
import Derived.Test.YtmniiodpbebnmaaGreatJ44
namespace Go.Proofs.YtmniiodpbebnmaaGreat

section
set_option linter.unusedSimpArgs false
set_option linter.unusedVariables false
open Go.RowKit Go.Lib Go.Sort

section
variable {B : Nat → Prop} {S : Nat} {c : Cfg} {rs rh n : Nat} {wd : Wd} {d : StoD}
/-- A key's home. -/
theorem StoreAt.home {w : World} (h : StoreAt B w S c rs rh n wd d) (hl : (d.sts.length : Int) = c.st) (hst : okSt c.st = true) (k : Ky) :
    ∃ (i : Nat) (s : St) (R : List Itm), routeI k.1 k.2 c.st = (i : Int) ∧ d.sts[i]? = some s ∧ wd.st[i]? = some R ∧ StrOk w c rs rh n s R := by
  obtain ⟨h0, h1⟩ := route_lt (hi := k.1) (lo := k.2) hst
  obtain ⟨i, hi⟩ := Int.eq_ofNat_of_zero_le h0
  have hil : i < d.sts.length := by omega
  obtain ⟨R, hR, hk⟩ := h.get (List.getElem?_eq_getElem hil)
  exact ⟨i, _, R, hi, List.getElem?_eq_getElem hil, hR, hk⟩
theorem StrOk.load {w : World} {s : St} {R : List Itm} (h : StrOk w c rs rh n s R) (k : KO) : match findM s.es k with | none => findIt R k.1 = none | some b => ∃ y, findIt R k.1 = some y ∧ sameN b.2.1 y := by
  have := tells_find h.tells k
  rw [ab_find] at this
  cases hf : findM s.es k with
  | none => rw [hf] at this; exact this
  | some b => rw [hf] at this; exact this
theorem getLast_nth {α : Type} {l : List α} (h : 0 < l.length) : l.getLast? = some (l[l.length - 1]'(by omega)) := by
  rw [List.getLast?_eq_getElem?, List.getElem?_eq_getElem (by omega)]

set_option maxRecDepth 100000 in
set_option maxHeartbeats 4000000 in
theorem stoLast_any (w : World) (h : StoreAt B w S c rs rh n wd d) (hl : (d.sts.length : Int) = c.st) (hst : okSt c.st = true) (hh : HomeOk c wd) (hrh : rh ≤ 64) (k : Ky) (hk : k.ok) :
    Calls Tryz.prog 87 #[.pointer (some ⟨S, 0, none⟩), .agg #[.int .u64 k.1, .int .u64 k.2]] w fun e w' => e = .returned (repV (readK wd k)) ∧ Below w.heap.size w w' := by
  obtain ⟨i, s, R, hri, hs, hR, hsk⟩ := h.home hl hst k
  have hbd := okSt_bd _ hst
  obtain ⟨r, hr⟩ : ∃ r, r = readK wd k := ⟨_, rfl⟩
  rw [← hr]
  have hld := load_home hh hR hri
  have CH := Lib.hid (fun W (hW : Below w.heap.size w W) => show Calls Tryz.prog 30 #[.pointer (some ⟨S, 0, none⟩), .agg #[.int .u64 k.1, .int .u64 k.2]] W fun e w' => e = .returned (.int .i64 (i : Nat)) ∧ Below W.heap.size W w' from hri ▸ stoHome_any W (h.below hW) (by omega) hl (by omega) k hk)
  have CS := Lib.hid (fun W (hW : Below w.heap.size w W) => stoStripe_any W (h.below hW) i s hs (by omega))
  have CG := Lib.hid (fun W (hW : Below w.heap.size w W) => sget_any s.T s.M c s.ver s.es rs rh ⟨k, hk⟩ W (hsk.at_.below hW))
  have hfd := hsk.load ⟨k, hk⟩
  rw [← hld] at hfd
  cases hf : findM s.es ⟨k, hk⟩ with
  | none =>
    rw [hf] at hfd CG
    have HRR := Lib.hid (show r = repF 5 by rw [hr]; unfold readK; rw [hfd])
    have CG2 := Lib.hid (show ∀ W, Below w.heap.size w W → Calls Tryz.prog 105 #[.pointer (some ⟨s.T, 0, none⟩), .agg #[.int .u64 k.1, .int .u64 k.2]] W fun e w' => e = .returned (.pointer none) ∧ Below W.heap.size W w' from CG.out)
    clear h hr hs hR hsk hfd hf CG hld hri
    go_enter Tryz.func87, Tryz.ntmps87
    go_wp2_with fail
    refine name_world ?_
    intro W hW
    have HB1 := Lib.hid (show Below w.heap.size w W by rw [hW]; exact balloc (balloc (Below.refl _ _) _) _)
    have HX0 := Lib.hid (show W.heap[w.heap.size]? = some (.cells #[.int .u64 k.1, .int .u64 k.2] 74 (0, 0)) by rw [hW]; exact box_old _ _ _)
    have HX1 := Lib.hid (show W.heap[w.heap.size + 1]? = some (.cells zR.toArray 46 (0, 0)) by rw [hW]; exact box_new _ _ _)
    clear hW
    have rk0 : ∀ U, Below W.heap.size W U → U.cell? ⟨w.heap.size, 0, none⟩ = some (.int .u64 k.1) := fun U hU => (box_cells hU HX0.out).1 0
    have rk1 : ∀ U, Below W.heap.size W U → U.cell? ⟨w.heap.size, 1, none⟩ = some (.int .u64 k.2) := fun U hU => (box_cells hU HX0.out).1 1
    have hS00 : Below W.heap.size W W := Below.refl _ _
    have hS0 : Below W.heap.size W W.drew := hS00.drew
    go_region_held3 (fun U => Below W.heap.size W U)
      (first
        | with_reducible exact hS0
        | with_reducible exact HB7.out
        | with_reducible exact HB5.out
        | with_reducible exact hS00)
      (first
      | (go_at_call 30
         refine (CH.out _ (bthen HB1.out ‹Below W.heap.size W _›)).mono ?_
         rintro e w5 ⟨rfl, hb5⟩
         have HB5 := Lib.hid (bthen ‹Below W.heap.size W _› hb5)
         clear hb5)
      | (go_at_call 32
         refine (CS.out _ (bthen HB1.out ‹Below W.heap.size W _›)).mono ?_
         rintro e w6 ⟨rfl, rfl⟩)
      | (go_at_call 105
         refine (CG2.out _ (bthen HB1.out ‹Below W.heap.size W _›)).mono ?_
         rintro e w7 ⟨rfl, hb7⟩
         have HB7 := Lib.hid (bthen ‹Below W.heap.size W _› hb7)
         clear hb7))
    all_goals
      refine then_named ?_
      intro W8 hW8
      have hb8 : Below W.heap.size W W8 := by rw [hW8]; first | exact HB7.out | exact HB7.out.drew | exact below_drewN HB7.out _
      have HX8 := Lib.hid ((hb8.block _ (Array.getElem?_eq_some_iff.1 HX1.out).1).trans HX1.out)
      have HB8 := Lib.hid (bthen HB1.out hb8)
      obtain ⟨y1, y2, y3⟩ := box_cells (Below.refl _ _) HX8.out
      unfold zR at y1
      clear hW8 hb8 rk0 rk1
      go_wp2
      refine post_named ?_
      intro W9 hW9
      have hW9' : W9 = stor W8 (w.heap.size + 1) 0 (repC (repF 5)) := hW9
      obtain ⟨t1, t2, t3, t4⟩ := stor_at HX8.out (repC (repF 5)) rfl W9 hW9'
      obtain ⟨a9, a8, a7⟩ := box_cells (Below.refl _ _) t1
      clear hW9 hW9'
      exact bodyPost_ret (v := repV (repF 5)) (by simp [results, Tryz.results87, go_sem, a9, repV, repC, repF, st0, adv0]) rfl ⟨by rw [HRR.out], HB8.out.trans (t4 _ (by omega))⟩
  | some b =>
    rw [hf] at hfd CG
    obtain ⟨y, hy, hsame⟩ := hfd
    have hnode := hsk.at_.node _ (find_mem hf)
    have CP := Lib.hid (fun W (hW : Below w.heap.size w W) => nodePast_any b.1 b.2.1 rs rh b.2.2 W (hnode.below hW) hrh)
    have hrr : r = match y.past.getLast? with | none => repF 0 | some a => ⟨0, 0, 0, st0, a⟩ := by rw [hr]; unfold readK; rw [hy]; rfl
    have hpl : y.past.length ≤ 64 := by rw [← hsame.2.1]; exact Nat.le_trans hnode.ok.past hrh
    rw [hsame.2.1] at CP
    have CG3 := Lib.hid (show ∀ W, Below w.heap.size w W → Calls Tryz.prog 105 #[.pointer (some ⟨s.T, 0, none⟩), .agg #[.int .u64 k.1, .int .u64 k.2]] W fun e w' => e = .returned (.pointer (some ⟨b.1, 0, none⟩)) ∧ Below W.heap.size W w' from CG.out)
    generalize y.past = l at CP hrr hpl
    generalize b.1 = N at CP CG3
    clear h hr hs hR hsk hf CG hld hri hy hsame hnode
    by_cases h0 : 0 < l.length
    · obtain ⟨m, hm⟩ : ∃ m, m = l.length - 1 := ⟨_, rfl⟩
      have hlt : m < l.length := by omega
      have hrr2 : r = ⟨0, 0, 0, st0, l[m]⟩ := by
        rw [hrr, getLast_nth h0]
        simp only [hm]
      have z9 : ¬ ((l.length : Nat) : Int) = 0 := by omega
      have z7 : (((l.length : Nat) : Int) == 0) = false := beq_eq_false_iff_ne.2 z9
      have hw : wrap64 ((m : Nat) : Int) = (m : Nat) := by unfold wrap64; omega
      have hw2 : ((l.length : Nat) - 1 : Int) = (m : Nat) := by omega
      have z1 : (0 : Int) ≤ (m : Int) := by omega
      have z2 : (m : Int) < (l.length : Int) := by omega
      have HLT := Lib.hid hlt
      clear hrr hm h0
      go_enter Tryz.func87, Tryz.ntmps87
      go_wp2_with fail
      refine name_world ?_
      intro W hW
      have HB1 := Lib.hid (show Below w.heap.size w W by rw [hW]; exact balloc (balloc (Below.refl _ _) _) _)
      have HX0 := Lib.hid (show W.heap[w.heap.size]? = some (.cells #[.int .u64 k.1, .int .u64 k.2] 74 (0, 0)) by rw [hW]; exact box_old _ _ _)
      have HX1 := Lib.hid (show W.heap[w.heap.size + 1]? = some (.cells zR.toArray 46 (0, 0)) by rw [hW]; exact box_new _ _ _)
      clear hW
      have rk0 : ∀ U, Below W.heap.size W U → U.cell? ⟨w.heap.size, 0, none⟩ = some (.int .u64 k.1) := fun U hU => (box_cells hU HX0.out).1 0
      have rk1 : ∀ U, Below W.heap.size W U → U.cell? ⟨w.heap.size, 1, none⟩ = some (.int .u64 k.2) := fun U hU => (box_cells hU HX0.out).1 1
      have hS00 : Below W.heap.size W W := Below.refl _ _
      have hS0 : Below W.heap.size W W.drew := hS00.drew
      go_region_held3 (fun U => Below W.heap.size W U)
        (first
          | with_reducible exact hS0
          | with_reducible exact HB7.out
          | with_reducible exact HB5.out
          | with_reducible exact hS00)
        (first
        | (go_at_call 30
           refine (CH.out _ (bthen HB1.out ‹Below W.heap.size W _›)).mono ?_
           rintro e w5 ⟨rfl, hb5⟩
           have HB5 := Lib.hid (bthen ‹Below W.heap.size W _› hb5)
           clear hb5)
        | (go_at_call 32
           refine (CS.out _ (bthen HB1.out ‹Below W.heap.size W _›)).mono ?_
           rintro e w6 ⟨rfl, rfl⟩)
        | (go_at_call 105
           refine (CG3.out _ (bthen HB1.out ‹Below W.heap.size W _›)).mono ?_
           rintro e w7 ⟨rfl, hb7⟩
           have HB7 := Lib.hid (bthen ‹Below W.heap.size W _› hb7)
           clear hb7))
      all_goals
        refine then_named ?_
        intro W8 hW8
        have hb8 : Below W.heap.size W W8 := by rw [hW8]; first | exact HB7.out | exact HB7.out.drew | exact below_drewN HB7.out _
        have HX8 := Lib.hid ((hb8.block _ (Array.getElem?_eq_some_iff.1 HX1.out).1).trans HX1.out)
        have HB8 := Lib.hid (bthen HB1.out hb8)
        obtain ⟨y1, y2, y3⟩ := box_cells (Below.refl _ _) HX8.out
        unfold zR at y1
        clear hW8 hb8 rk0 rk1
        go_wp2_with (first
          | (go_at_call 108
             refine (CP.out W8 HB8.out).mono ?_
             rintro e w9 ⟨A9, c9, fp9, rfl, hr9, _, hb9⟩
             have HB9 := Lib.hid (bthen HB8.out hb9)
             have HX9 := Lib.hid ((hb9.block _ (Array.getElem?_eq_some_iff.1 HX8.out).1).trans HX8.out)
             obtain ⟨y1, y2, y3⟩ := box_cells (Below.refl _ _) HX9.out
             unfold zR at y1
             have HR9 := Lib.hid (hr9.row eAdv)
             obtain ⟨bb, o, hA, hbb, hcc⟩ := HR9.out.at_ HLT.out
             subst hA
             have c0 := hcc 0 _ rfl
             have c1 := hcc 1 _ rfl
             have c2 := hcc 2 _ rfl
             have c3 := hcc 3 _ rfl
             have c4 := hcc 4 _ rfl
             rw [Nat.add_zero] at c0
             have HRR := Lib.hid hrr2
             generalize l[m] = a at c0 c1 c2 c3 c4 HRR
             clear hcc
             clear hr9 hb9))
        refine post_named ?_
        intro W9 hW9
        have hW9' : W9 = stor w9 (w.heap.size + 1) 0 (repC ⟨0, 0, 0, st0, a⟩) := hW9
        obtain ⟨t1, t2, t3, t4⟩ := stor_at HX9.out (repC ⟨0, 0, 0, st0, a⟩) rfl W9 hW9'
        obtain ⟨a9, a8, a7⟩ := box_cells (Below.refl _ _) t1
        clear hW9 hW9'
        exact bodyPost_ret (v := repV ⟨0, 0, 0, st0, a⟩) (by simp [results, Tryz.results87, go_sem, a9, repV, repC, repF, st0, adv0]) rfl ⟨by rw [HRR.out], HB9.out.trans (t4 _ (by omega))⟩
    · have hz : l = [] := List.length_eq_zero_iff.1 (by omega)
      subst hz
      have HRR := Lib.hid (show r = repF 0 from hrr)
      clear hrr h0
      go_enter Tryz.func87, Tryz.ntmps87
      go_wp2_with fail
      refine name_world ?_
      intro W hW
      have HB1 := Lib.hid (show Below w.heap.size w W by rw [hW]; exact balloc (balloc (Below.refl _ _) _) _)
      have HX0 := Lib.hid (show W.heap[w.heap.size]? = some (.cells #[.int .u64 k.1, .int .u64 k.2] 74 (0, 0)) by rw [hW]; exact box_old _ _ _)
      have HX1 := Lib.hid (show W.heap[w.heap.size + 1]? = some (.cells zR.toArray 46 (0, 0)) by rw [hW]; exact box_new _ _ _)
      clear hW
      have rk0 : ∀ U, Below W.heap.size W U → U.cell? ⟨w.heap.size, 0, none⟩ = some (.int .u64 k.1) := fun U hU => (box_cells hU HX0.out).1 0
      have rk1 : ∀ U, Below W.heap.size W U → U.cell? ⟨w.heap.size, 1, none⟩ = some (.int .u64 k.2) := fun U hU => (box_cells hU HX0.out).1 1
      have hS00 : Below W.heap.size W W := Below.refl _ _
      have hS0 : Below W.heap.size W W.drew := hS00.drew
      go_region_held3 (fun U => Below W.heap.size W U)
        (first
          | with_reducible exact hS0
          | with_reducible exact HB7.out
          | with_reducible exact HB5.out
          | with_reducible exact hS00)
        (first
        | (go_at_call 30
           refine (CH.out _ (bthen HB1.out ‹Below W.heap.size W _›)).mono ?_
           rintro e w5 ⟨rfl, hb5⟩
           have HB5 := Lib.hid (bthen ‹Below W.heap.size W _› hb5)
           clear hb5)
        | (go_at_call 32
           refine (CS.out _ (bthen HB1.out ‹Below W.heap.size W _›)).mono ?_
           rintro e w6 ⟨rfl, rfl⟩)
        | (go_at_call 105
           refine (CG3.out _ (bthen HB1.out ‹Below W.heap.size W _›)).mono ?_
           rintro e w7 ⟨rfl, hb7⟩
           have HB7 := Lib.hid (bthen ‹Below W.heap.size W _› hb7)
           clear hb7))
      all_goals
        refine then_named ?_
        intro W8 hW8
        have hb8 : Below W.heap.size W W8 := by rw [hW8]; first | exact HB7.out | exact HB7.out.drew | exact below_drewN HB7.out _
        have HX8 := Lib.hid ((hb8.block _ (Array.getElem?_eq_some_iff.1 HX1.out).1).trans HX1.out)
        have HB8 := Lib.hid (bthen HB1.out hb8)
        obtain ⟨y1, y2, y3⟩ := box_cells (Below.refl _ _) HX8.out
        unfold zR at y1
        clear hW8 hb8 rk0 rk1
        go_wp2_with (first
          | (go_at_call 108
             refine (CP.out W8 HB8.out).mono ?_
             rintro e w9 ⟨A9, c9, fp9, rfl, hr9, _, hb9⟩
             have HB9 := Lib.hid (bthen HB8.out hb9)
             have HX9 := Lib.hid ((hb9.block _ (Array.getElem?_eq_some_iff.1 HX8.out).1).trans HX8.out)
             obtain ⟨y1, y2, y3⟩ := box_cells (Below.refl _ _) HX9.out
             unfold zR at y1
             have HR9 := Lib.hid (hr9.row eAdv)
             skip
             clear hr9 hb9))
        refine post_named ?_
        intro W9 hW9
        have hW9' : W9 = stor w9 (w.heap.size + 1) 0 (repC (repF 0)) := hW9
        obtain ⟨t1, t2, t3, t4⟩ := stor_at HX9.out (repC (repF 0)) rfl W9 hW9'
        obtain ⟨a9, a8, a7⟩ := box_cells (Below.refl _ _) t1
        clear hW9 hW9'
        exact bodyPost_ret (v := repV (repF 0)) (by simp [results, Tryz.results87, go_sem, a9, repV, repC, repF, st0, adv0]) rfl ⟨by rw [HRR.out], HB9.out.trans (t4 _ (by omega))⟩
end
end

section
set_option linter.unusedSimpArgs false
set_option linter.unusedVariables false
open Go.RowKit Go.Lib Go.Sort

section
variable {B : Nat → Prop} {S : Nat} {c : Cfg} {rs rh n : Nat} {wd : Wd} {d : StoD}
theorem StoreAt.avoidX {w W : World} {X : Nat} (h : StoreAt B w S c rs rh n wd d) (hX : w.heap.size ≤ X) (hb : Below w.heap.size w W) : StoreAt (fun b => B b ∧ b ≠ X) W S c rs rh n wd d :=
  h.keep hb.size (fun r hr hlt => ⟨hb.block r hlt, hr, by omega⟩)
theorem sto_endX {w w5 W9 : World} {X m : Nat} {wd' : Wd} {d' : StoD} {v : Value} {fp : List Nat} (hX : w.heap.size ≤ X) (h : StoreAt (fun b => B b ∧ b ≠ X) w5 S c rs rh m wd' d') (hu : Upd w w5 fp (d'.fp S)) (h2 : ∀ k, k ≠ X → W9.heap[k]? = w5.heap[k]?) (h3 : W9.heap.size = w5.heap.size) (h4 : ∀ n, n ≤ X → Below n w5 W9) :
    StoSays B w S c rs rh m fp v wd' (.returned v) W9 :=
  ⟨d'.fp S, rfl, ⟨d', h.stored h3 h2, rfl⟩, hu.thenB (h4 _ hX)⟩
theorem StrOk.sok {w : World} {s : St} {R : List Itm} (h : StrOk w c rs rh n s R) (hc : CfgOk c rs rh) (hn : n ≤ 100) : SOk c rs rh s.ver (ab s.es) := sok_of (W := w) (T := s.T) (M := s.M) h.grown h.ver_ hc hn
/-- One act is done to one stripe. -/
theorem StoreAt.act {w w' : World} (h : StoreAt B w S c rs rh n wd d) (hB : ∀ b, w.heap.size ≤ b → B b) (hc : CfgOk c rs rh) (hn : n ≤ 100) {i : Nat} {s : St} {R : List Itm} (hi : d.sts[i]? = some s) (hR : wd.st[i]? = some R) (k : KO) (a : Act17) (h0 : ¬ a.kind < 0) (h1 : a.kind ≠ 1) (h3 : ¬ 3 < a.kind) {es' : List (KO × NE)}
    (hat : SAt w' s.T s.M c (doS c rs rh s.ver (ab s.es) k a).ver es' rs rh) (hab : ab es' = (doS c rs rh s.ver (ab s.es) k a).has) (hu : Upd w w' s.fp (sfp s.T s.M es')) (ho : Old w.heap.size s.es es') :
    ∃ d', StoreAt B w' S c rs rh (n + 1) { wd with st := wd.st.set i (oneP c rs rh R k.1 a).1 } d' ∧ Upd w w' (d.fp S) (d'.fp S) ∧ d'.sts.length = d.sts.length := by
  have hk := h.str i s R hi hR
  have ht := tells_one hk.tells c rs rh s.ver k a h0 h1 h3
  have hg := grown_act hk.grown c rs rh k a
  have hlen : (risL (keysS (ab s.es))).length ≤ n := by
    rw [risL_length (keysS_nodup hk.tells.nodup)]
    have := hk.grown.len
    simpa [keysS] using this
  have hv := ver_act hk.grown c rs rh k a hlen
  have hvv := hk.ver_
  obtain ⟨r1, r2⟩ := h.turn hi hR (R' := (oneP c rs rh R k.1 a).1) (m := n + 1) (fun r hr => ((ho.all (s := s) _) r hr).elim (h.bs s (List.mem_of_getElem? hi) r) (hB r)) (Nat.le_succ n) hu ho ⟨hat, by rw [hab]; exact ht.1, by rw [hab]; exact hg, Nat.le_trans hv (by omega)⟩
  exact ⟨_, r1, r2, by simp⟩
/-- What the other stripes are left as. -/
theorem StoreAt.other {w w' : World} (h : StoreAt B w S c rs rh n wd d) {i j : Nat} {s t : St} (hi : d.sts[i]? = some s) (hj : d.sts[j]? = some t) (hij : j ≠ i) {fp' : List Nat} (hu : Upd w w' s.fp fp') : ∀ r ∈ t.all, w'.heap[r]? = w.heap[r]? :=
  fun r hr => hu.block r (h.ltA t (List.mem_of_getElem? hj) r hr) (fun hq => h.pair i j s t hi hj (fun e => hij e.symm) r (s.sub r hq) hr)

/-! ### All stripes are trimmed -/
def trimI (cut : Int) (R : List Itm) : List Itm := R.map fun p => (p.1, trimR cut p.2)
def trimTo (cut : Int) (st : List (List Itm)) (k : Nat) : List (List Itm) := (st.take k).map (trimI cut) ++ st.drop k
theorem trimTo_zero (cut : Int) (st : List (List Itm)) : trimTo cut st 0 = st := by simp [trimTo]
theorem trimTo_all (cut : Int) (st : List (List Itm)) : trimTo cut st st.length = st.map (trimI cut) := by simp [trimTo]
theorem trimTo_len (cut : Int) (st : List (List Itm)) (k : Nat) : (trimTo cut st k).length = st.length := by simp [trimTo]; omega
theorem trimTo_set (cut : Int) (st : List (List Itm)) (k : Nat) {R : List Itm} (hR : st[k]? = some R) : (trimTo cut st k).set k (trimI cut R) = trimTo cut st (k + 1) := by
  obtain ⟨hk, rfl⟩ := List.getElem?_eq_some_iff.1 hR
  unfold trimTo
  rw [List.set_append_right _ _ (by simp; omega), List.take_succ_eq_append_getElem hk, List.map_append, List.append_assoc]
  congr 1
  have e : k - ((st.take k).map (trimI cut)).length = 0 := by simp; omega
  rw [e, List.drop_eq_getElem_cons hk]
  rfl
theorem trimTo_get (cut : Int) (st : List (List Itm)) (k j : Nat) (h : k ≤ j) (hk : k ≤ st.length) : (trimTo cut st k)[j]? = st[j]? := by
  unfold trimTo
  rw [List.getElem?_append_right (by simp; omega), List.getElem?_drop]
  congr 1
  simp
  omega
structure TrimSt (B : Nat → Prop) (w wr : World) (S : Nat) (c : Cfg) (rs rh n : Nat) (wd : Wd) (d dk : StoD) (cut : Int) (k : Nat) : Prop where
  at_ : StoreAt B wr S c rs rh (n + 1) { wd with st := trimTo cut wd.st k } dk
  up : Upd w wr (d.fp S) (dk.fp S)
  eA : dk.A = d.A ∧ dk.cp = d.cp ∧ dk.sts.length = d.sts.length
  rest : ∀ (j : Nat) (s : St) (R : List Itm), k ≤ j → dk.sts[j]? = some s → wd.st[j]? = some R → StrOk wr c rs rh n s R
theorem TrimSt.start {w : World} (h : StoreAt B w S c rs rh n wd d) (cut : Int) : TrimSt B w w S c rs rh n wd d d cut 0 :=
  ⟨by rw [trimTo_zero]; exact h.mono (Nat.le_succ n), Upd.of_below (Below.refl _ _) _, ⟨rfl, rfl, rfl⟩, fun j s R _ hs hR => h.str j s R hs hR⟩
theorem TrimSt.below {w wr w' : World} {dk : StoD} {cut : Int} {k : Nat} (h : TrimSt B w wr S c rs rh n wd d dk cut k) (hb : Below wr.heap.size wr w') : TrimSt B w w' S c rs rh n wd d dk cut k :=
  ⟨h.at_.below hb, h.up.trans (Upd.of_below hb _), h.eA, fun j s R hj hs hR => (h.rest j s R hj hs hR).kept (fun r hr => hb.block r ((h.rest j s R hj hs hR).lt r hr))⟩
theorem TrimSt.step {w wr w' : World} {dk : StoD} {cut : Int} {k : Nat} (h : TrimSt B w wr S c rs rh n wd d dk cut k) (hB : ∀ b, w.heap.size ≤ b → B b) (hn : n ≤ 100) {s : St} (hs : dk.sts[k]? = some s) {es' : List (KO × NE)}
    (hat : SAt w' s.T s.M c (s.ver + manyS (ab s.es) cut (risL (kyN s.es))) es' rs rh) (hab : ab es' = trimK (ab s.es) cut (risL (kyN s.es))) (hu : Upd wr w' s.fp (sfp s.T s.M es')) (ho : Old wr.heap.size s.es es') :
    ∃ dk', TrimSt B w w' S c rs rh n wd d dk' cut (k + 1) := by
  have hkl := (List.getElem?_eq_some_iff.1 hs).1
  have hln := h.at_.len
  rw [trimTo_len] at hln
  have hkw : k < wd.st.length := by omega
  have hR := List.getElem?_eq_getElem hkw
  generalize wd.st[k] = R at hR
  have hk := h.rest k s R (Nat.le_refl k) hs hR
  have hd : doS c rs rh s.ver (ab s.es) ⟨(0, 0), ⟨by decide, by decide⟩⟩ ⟨1, (cut, 0), pol0, adv0⟩ = ⟨0, goneS (ab s.es) cut (risL (kyN s.es)), s.ver + manyS (ab s.es) cut (risL (kyN s.es)), trimK (ab s.es) cut (risL (kyN s.es))⟩ := by
    unfold doS
    rw [if_neg (show ¬ (1 : Int) = 0 by decide), if_pos rfl, kyN_keysS]
  have ht := tells_trimR hk.tells c rs rh s.ver ⟨(0, 0), ⟨by decide, by decide⟩⟩ cut
  have hg := grown_act hk.grown c rs rh ⟨(0, 0), ⟨by decide, by decide⟩⟩ ⟨1, (cut, 0), pol0, adv0⟩
  have hlen : (risL (keysS (ab s.es))).length ≤ n := by
    rw [risL_length (keysS_nodup hk.tells.nodup)]
    have := hk.grown.len
    simpa [keysS] using this
  have hv := ver_act hk.grown c rs rh ⟨(0, 0), ⟨by decide, by decide⟩⟩ ⟨1, (cut, 0), pol0, adv0⟩ hlen
  rw [hd] at ht hg hv
  dsimp only at ht hg hv
  have hvv := hk.ver_
  have hRk : (trimTo cut wd.st k)[k]? = some R := by
    have hkk : k ≤ wd.st.length := by omega
    rw [trimTo_get cut wd.st k k (Nat.le_refl k) hkk]
    exact hR
  obtain ⟨r1, r2⟩ := h.at_.turn hs hRk (R' := trimI cut R) (m := n + 1) (fun r hr => ((ho.all (s := s) _) r hr).elim (h.at_.bs s (List.mem_of_getElem? hs) r) (fun h9 => hB r (Nat.le_trans h.up.size h9))) (Nat.le_refl _) hu ho ⟨hat, by rw [hab]; exact ht, by rw [hab]; exact hg, by dsimp only; omega⟩
  refine ⟨{ dk with sts := dk.sts.set k ⟨s.T, s.M, s.ver + manyS (ab s.es) cut (risL (kyN s.es)), es'⟩ }, ⟨?_, h.up.trans r2, ⟨h.eA.1, h.eA.2.1, by show (dk.sts.set k _).length = _; rw [List.length_set]; exact h.eA.2.2⟩, fun j t Rj hj ht hRj => ?_⟩⟩
  · have e : (trimTo cut wd.st k).set k (trimI cut R) = trimTo cut wd.st (k + 1) := trimTo_set cut wd.st k hR
    rw [← e]
    exact r1
  · have ht : (dk.sts.set k _)[j]? = some t := ht
    rw [List.getElem?_set, if_neg (by omega)] at ht
    exact (h.rest j t Rj (by omega) ht hRj).kept (h.at_.other hs ht (by omega) hu)
end
end

end Go.Proofs.YtmniiodpbebnmaaGreat
