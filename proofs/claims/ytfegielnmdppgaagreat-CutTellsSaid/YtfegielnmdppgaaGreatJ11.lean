/- node.Node in memory: made, New, own; node.Samples; slices.AppendSeq, slices.Collect at keys, against whatever iterator that keeps its word; fifo's All and List at keys. -/
import Derived.Test.YtfegielnmdppgaaGreatJ10
import Derived.Test.YtfegielnmdppgaaGreatJ03
import Derived.RangeFuncNested
import Derived.RangeFuncBound
import Derived.RangeFuncCalls
import Derived.RangeFuncLeaves
import Derived.Shelf.Abstract
import Derived.Shelf.RegionOpen
import Derived.WalkKit
import Derived.OwnWalkIn
import Derived.TacticsInMore
import Derived.LoopNIn
import Derived.LoopIn
import Derived.Maps.AppendAt
namespace Go.Proofs.YtfegielnmdppgaaGreat

section
set_option linter.unusedSimpArgs false
set_option linter.unusedVariables false
open Go.RowKit Go.Lib Go.Sort

/-- A workload. -/
structure Nd where
  pol : Pol
  ruled : Bool
  ver : Nat
  smp : List Smp
  past : List Adv
  frz : Bool
def pol0 : Pol := ⟨0, 0, 0, 0, 0, 0⟩
def nd0 : Nd := ⟨pol0, false, 0, [], [], false⟩
def ndC (x : Nd) (S H : Nat) : Array Value := #[.int .i64 x.pol.mn, .int .i64 x.pol.mx, .int .i64 x.pol.tg, .int .i64 x.pol.tol, .int .i64 x.pol.win, .int .i64 x.pol.hold, .bool x.ruled, .int .i64 (x.ver : Nat), .pointer (some ⟨S, 0, none⟩), .pointer (some ⟨H, 0, none⟩), .bool x.frz]
def NodeIn (w : World) (N : Nat) (x : Nd) (rs rh : Nat) (fp : List Nat) : Prop :=
  ∃ S fs H fh, w.heap[N]? = some (.cells (ndC x S H) 145 (0, 0)) ∧ SerIn w S x.smp (rs : Nat) fs ∧ HistIn w H x.past rh fh ∧ N ∉ fs ∧ N ∉ fh ∧ (∀ k ∈ fs, k ∉ fh) ∧ fp = N :: (fs ++ fh) ∧ risingS x.smp ∧ x.smp.length ≤ rs
theorem NodeIn.kept {w w' : World} {N : Nat} {x : Nd} {rs rh : Nat} {fp : List Nat} (h : NodeIn w N x rs rh fp) (hb : ∀ r ∈ fp, w'.heap[r]? = w.heap[r]?) : NodeIn w' N x rs rh fp := by
  obtain ⟨S, fs, H, fh, h1, h2, h3, h4, h5, h6, rfl, h7⟩ := h
  exact ⟨S, fs, H, fh, (hb N (List.mem_cons_self ..)).trans h1, h2.kept (fun r hr => hb r (List.mem_cons_of_mem _ (List.mem_append_left _ hr))), h3.kept (fun r hr => hb r (List.mem_cons_of_mem _ (List.mem_append_right _ hr))), h4, h5, h6, rfl, h7⟩
theorem NodeIn.lt {w : World} {N : Nat} {x : Nd} {rs rh : Nat} {fp : List Nat} (h : NodeIn w N x rs rh fp) : ∀ r ∈ fp, r < w.heap.size := by
  obtain ⟨S, fs, H, fh, h1, h2, h3, h4, h5, h6, rfl, h7⟩ := h
  intro r hr
  rcases List.mem_cons.1 hr with rfl | hr
  · exact (Array.getElem?_eq_some_iff.1 h1).1
  · exact (List.mem_append.1 hr).elim (h2.lt r) (h3.lt r)
theorem NodeIn.below {w w' : World} {N : Nat} {x : Nd} {rs rh : Nat} {fp : List Nat} (h : NodeIn w N x rs rh fp) (hb : Below w.heap.size w w') : NodeIn w' N x rs rh fp := h.kept (fun r hr => hb.block r (h.lt r hr))
theorem NodeIn.mem {w : World} {N : Nat} {x : Nd} {rs rh : Nat} {fp : List Nat} (h : NodeIn w N x rs rh fp) : N ∈ fp := by
  obtain ⟨S, fs, H, fh, h1, h2, h3, h4, h5, h6, rfl, h7⟩ := h
  exact List.mem_cons_self ..
def NewNode (w : World) (x : Nd) (rs rh : Nat) (e : Ending) (w' : World) : Prop :=
  ∃ N fp, e = .returned (.pointer (some ⟨N, 0, none⟩)) ∧ NodeIn w' N x rs rh fp ∧ (∀ k ∈ fp, w.heap.size ≤ k) ∧ Below w.heap.size w w'
/-- What of a node may turn. -/
def mfp (x : Nd) (fp : List Nat) : List Nat := if x.frz = true then [] else fp

theorem node_new {w w9 : World} {S H : Nat} {fs fh : List Nat} {x : Nd} {rs rh : Nat} (hS : SerIn w9 S x.smp (rs : Nat) fs) (hH : HistIn w9 H x.past rh fh) (hd : ∀ k ∈ fs, k ∉ fh) (h1 : ∀ k ∈ fs, w.heap.size ≤ k) (h2 : ∀ k ∈ fh, w.heap.size ≤ k) (hb : Below w.heap.size w w9) (hr : risingS x.smp) (hl : x.smp.length ≤ rs) :
    NewNode w x rs rh (.returned (.pointer (some ⟨w9.heap.size, 0, none⟩))) (w9.alloc (.cells (ndC x S H) 145)) :=
  ⟨w9.heap.size, w9.heap.size :: (fs ++ fh), rfl, ⟨S, fs, H, fh, heap_alloc_new _ _, hS.below (balloc (Below.refl _ _) _), hH.below (balloc (Below.refl _ _) _), fun h => by have := hS.lt _ h; omega, fun h => by have := hH.lt _ h; omega, hd, rfl, hr, hl⟩,
    fun k hk => by
      rcases List.mem_cons.1 hk with rfl | hk
      · exact hb.size
      · exact (List.mem_append.1 hk).elim (h1 k) (h2 k), balloc hb _⟩

theorem node_set {w : World} {N : Nat} {x y : Nd} {rs rh : Nat} {fp : List Nat} {i : Nat} {v : Value} (h : NodeIn w N x rs rh fp) (e : ∀ S H, (ndC x S H).setIfInBounds i v = ndC y S H) (es : y.smp = x.smp) (ep : y.past = x.past) : NodeIn (w.setCell ⟨N, i, none⟩ v) N y rs rh fp := by
  obtain ⟨S, fs, H, fh, h1, h2, h3, h4, h5, h6, rfl, h7, h8⟩ := h
  exact ⟨S, fs, H, fh, (setCell_block h1).trans (by rw [e]), by rw [es]; exact h2.kept (fun r hr => Below.heap_setCell _ _ _ _ (fun e => h4 (by have e' : r = N := e; rw [← e']; exact hr))), by rw [ep]; exact h3.kept (fun r hr => Below.heap_setCell _ _ _ _ (fun e => h5 (by have e' : r = N := e; rw [← e']; exact hr))), h4, h5, h6, rfl, by rw [es]; exact h7, by rw [es]; exact h8⟩
def bump (x : Nd) : Nd := { x with ver := x.ver + 1, frz := false }
def OwnS (w : World) (x : Nd) (rs rh : Nat) (fp : List Nat) (e : Ending) (w' : World) : Prop :=
  ∃ N fp', e = .returned (.pointer (some ⟨N, 0, none⟩)) ∧ NodeIn w' N (bump x) rs rh fp' ∧ Upd w w' (mfp x fp) fp'

theorem own_new {w w9 : World} {S H : Nat} {fs fh fp : List Nat} {x : Nd} {rs rh : Nat} (hS : SerIn w9 S x.smp (rs : Nat) fs) (hH : HistIn w9 H x.past rh fh) (hd : ∀ k ∈ fs, k ∉ fh) (h1 : ∀ k ∈ fs, w.heap.size ≤ k) (h2 : ∀ k ∈ fh, w.heap.size ≤ k) (hb : Below w.heap.size w w9) (hr : risingS x.smp) (hl : x.smp.length ≤ rs) (hf : x.frz = true) :
    OwnS w x rs rh fp (.returned (.pointer (some ⟨w9.heap.size, 0, none⟩))) (w9.alloc (.cells (ndC (bump x) S H) 145)) := by
  obtain ⟨N, fp', e, hn, hf', hb'⟩ := node_new (x := bump x) hS hH hd h1 h2 hb hr hl
  refine ⟨N, fp', e, hn, ?_⟩
  unfold mfp
  rw [hf, if_pos rfl]
  exact ⟨hb'.os, hb'.tape, hb'.output, hb'.size, fun k hk _ => hb'.block k hk, fun k hk => .inr (hf' k hk)⟩

set_option maxRecDepth 100000 in
set_option maxHeartbeats 4000000 in
theorem made_any (N : Nat) (x : Nd) (rs rh : Nat) (fp : List Nat) (w : World) (h : NodeIn w N x rs rh fp) :
    Calls Tryz.prog 112 #[.pointer (some ⟨N, 0, none⟩)] w fun e w' => e = .returned (.bool true) ∧ Below w.heap.size w w' := by
  obtain ⟨S, fs, H, fh, h1, h2, h3, h4, h5, h6, rfl, h7⟩ := h
  have z0 : w.cell? ⟨N, 8, none⟩ = some (.pointer (some ⟨S, 0, none⟩)) := by simp only [World.cell?, h1]; rfl
  clear h1 h2 h3 h4 h5 h6 h7
  go_enter Tryz.func112, Tryz.ntmps112
  go_wp2
  go_ret
  exact ⟨rfl, Below.refl _ _⟩

set_option maxRecDepth 100000 in
set_option maxHeartbeats 4000000 in
theorem nodeNew_any (c : Cfg) (rs rh : Nat) (w : World) (hc : cfgB c = true) (hrs : c.sa = (rs : Nat)) (hrh : c.hi = (rh : Nat)) (hok : c.ok) :
    Calls Tryz.prog 18 #[cfgV c] w (NewNode w nd0 rs rh) := by
  have hb : 1 ≤ rs ∧ rs ≤ 256 ∧ 1 ≤ rh ∧ rh ≤ 64 := by
    unfold cfgB at hc
    simp only [Bool.and_eq_true, decide_eq_true_eq] at hc
    omega
  have hE : cfgE c = 0 := by unfold cfgE; rw [if_pos hc]
  have HE := Lib.hid hE
  obtain ⟨st, sa, lo, hi⟩ := c
  dsimp only at hrs hrh
  subst hrs hrh
  have HNR := Lib.hid (nodeRight_any ⟨st, (rs : Nat), lo, (rh : Nat)⟩)
  clear hc hE
  unfold cfgV
  go_enter Tryz.func18, Tryz.ntmps18
  go_wp2_with (go_at_call 64
               refine calls_named ?_
               intro W1 hW1
               have hb1 : Below w.heap.size w W1 := by rw [hW1]; exact balloc (Below.refl _ _) _
               have hx1 : W1.heap[w.heap.size]? = some (.cells #[.int .i64 st, .int .i64 (rs : Nat), .int .i64 lo, .int .i64 (rh : Nat)] 23 (0, 0)) := by rw [hW1]; exact heap_alloc_new _ _
               clear hW1
               refine (HNR.out W1 hok).mono ?_
               rw [HE.out]
               rintro e w2 ⟨rfl, hb2⟩
               obtain ⟨a1, a2, a3⟩ := box_cells hb2 hx1
               have HX := Lib.hid ((hb2.block w.heap.size (Array.getElem?_eq_some_iff.1 hx1).1).trans hx1)
               have HBX := Lib.hid (bthen hb1 hb2)
               clear hb1 hx1 hb2)
  go_region_with ((first
      | (go_at_call 66
         refine calls_named ?_
         intro W4 hW4
         have hbo : Below ws.heap.size ws W4 := by rw [hW4]; repeat (first | exact Below.refl _ _ | refine balloc ?_ _ | refine Below.drew ?_)
         have hb4 : Below w2.heap.size w2 W4 := bthen HB1.out hbo
         clear hW4
         refine (histNew_any rh W4 hb.2.2.1 (by omega)).mono ?_
         rintro e wh ⟨H, fh, rfl, h1, h2, h3⟩
         have hbn : Below w2.heap.size w2 wh := bthen hb4 h3
         have h2' : ∀ k ∈ fh, w2.heap.size ≤ k := fun k hk => by have := h2 k hk; have := hb4.size; omega
         obtain ⟨a4, a5, a6⟩ := box_cells hbn HX.out
         have HS9 := Lib.hid (HSE.out.below (bthen hbo h3))
         have HH9 := Lib.hid (h1)
         have HD9 := Lib.hid (show ∀ k ∈ fs, k ∉ fh from fun k hk hk' => by have := h2 k hk'; have := HSE.out.lt k hk; have := hbo.size; omega)
         have HF9 := Lib.hid (And.intro (show ∀ k ∈ fs, w2.heap.size ≤ k from HSF.out) (show ∀ k ∈ fh, w2.heap.size ≤ k from h2'))
         have HB9 := Lib.hid hbn
         clear h1 h2 h2' h3 hb4 hbn hbo)
      | (go_at_call 65
         refine calls_named ?_
         intro W4 hW4
         have hbo : Below wh.heap.size wh W4 := by rw [hW4]; repeat (first | exact Below.refl _ _ | refine balloc ?_ _ | refine Below.drew ?_)
         have hb4 : Below w2.heap.size w2 W4 := bthen HB1.out hbo
         clear hW4
         refine (serNew_any (rs : Nat) W4 (by omega) (by omega)).mono ?_
         rintro e ws ⟨S, fs, rfl, h1, h2, h3⟩
         have hbn : Below w2.heap.size w2 ws := bthen hb4 h3
         have h2' : ∀ k ∈ fs, w2.heap.size ≤ k := fun k hk => by have := h2 k hk; have := hb4.size; omega
         obtain ⟨a4, a5, a6⟩ := box_cells hbn HX.out
         have HS9 := Lib.hid (h1)
         have HH9 := Lib.hid (HHI.out.below (bthen hbo h3))
         have HD9 := Lib.hid (show ∀ k ∈ fs, k ∉ fh from fun k hk hk' => by have := h2 k hk; have := HHI.out.lt k hk'; have := hbo.size; omega)
         have HF9 := Lib.hid (And.intro (show ∀ k ∈ fs, w2.heap.size ≤ k from h2') (show ∀ k ∈ fh, w2.heap.size ≤ k from HHF.out))
         have HB9 := Lib.hid hbn
         clear h1 h2 h2' h3 hb4 hbn hbo)
      | (go_at_call 65
         refine calls_named ?_
         intro W4 hW4
         have hb4 : Below w2.heap.size w2 W4 := by rw [hW4]; repeat (first | exact Below.refl _ _ | refine balloc ?_ _ | refine Below.drew ?_)
         clear hW4
         refine (serNew_any (rs : Nat) W4 (by omega) (by omega)).mono ?_
         rintro e ws ⟨S, fs, rfl, h1, h2, h3⟩
         have hbn : Below w2.heap.size w2 ws := bthen hb4 h3
         have h2' : ∀ k ∈ fs, w2.heap.size ≤ k := fun k hk => by have := h2 k hk; have := hb4.size; omega
         obtain ⟨a4, a5, a6⟩ := box_cells hbn HX.out
         have HSE := Lib.hid h1
         have HSF := Lib.hid h2'
         have HB1 := Lib.hid hbn
         clear h1 h2 h2' h3 hb4 hbn)
      | (go_at_call 66
         refine calls_named ?_
         intro W4 hW4
         have hb4 : Below w2.heap.size w2 W4 := by rw [hW4]; repeat (first | exact Below.refl _ _ | refine balloc ?_ _ | refine Below.drew ?_)
         clear hW4
         refine (histNew_any rh W4 hb.2.2.1 (by omega)).mono ?_
         rintro e wh ⟨H, fh, rfl, h1, h2, h3⟩
         have hbn : Below w2.heap.size w2 wh := bthen hb4 h3
         have h2' : ∀ k ∈ fh, w2.heap.size ≤ k := fun k hk => by have := h2 k hk; have := hb4.size; omega
         obtain ⟨a4, a5, a6⟩ := box_cells hbn HX.out
         have HHI := Lib.hid h1
         have HHF := Lib.hid h2'
         have HB1 := Lib.hid hbn
         clear h1 h2 h2' h3 hb4 hbn)))
  all_goals go_wp2
  all_goals go_ret
  all_goals exact node_new (x := nd0) HS9.out HH9.out HD9.out (fun k hk => Nat.le_trans HBX.out.size (HF9.out.1 k hk)) (fun k hk => Nat.le_trans HBX.out.size (HF9.out.2 k hk)) (bthen HBX.out HB9.out) List.Pairwise.nil (Nat.zero_le _)

set_option maxRecDepth 100000 in
set_option maxHeartbeats 4000000 in
theorem own_any (N : Nat) (x : Nd) (rs rh : Nat) (fp : List Nat) (w : World) (h : NodeIn w N x rs rh fp) (hrs : rs ≤ 256) (hrh : rh ≤ 64) (hv : x.ver ≤ 1000000) :
    Calls Tryz.prog 171 #[.pointer (some ⟨N, 0, none⟩)] w (OwnS w x rs rh fp) := by
  have HN := Lib.hid h
  have hw : IntKind.i64.wrap ((x.ver : Int) + 1) = ((x.ver + 1 : Nat) : Int) := by rw [IntKind.wrap_i64]; omega
  obtain ⟨S0, f0, H0, g0, h1, h2, h3, h4, h5, h6, hfp, h7, h8⟩ := h
  have hlt := (Array.getElem?_eq_some_iff.1 h1).1
  unfold ndC at h1
  obtain ⟨z1, z2, z3⟩ := box_cells (Below.refl _ _) h1
  have HX := Lib.hid h1
  have HSE0 := Lib.hid h2
  have HHI0 := Lib.hid h3
  have H7 := Lib.hid h7
  have hln : x.smp.length ≤ 1000000 := by omega
  clear h1 h2 h3 h7
  cases hf : x.frz with
  | false =>
    rw [hf] at z1
    have HF := Lib.hid hf
    clear hf
    go_enter Tryz.func171, Tryz.ntmps171
    go_wp2
    go_ret
    refine ⟨N, fp, rfl, node_set (x := x) (y := bump x) HN.out (fun S H => ?_) rfl rfl, ?_⟩
    · unfold ndC bump; rw [HF.out]; simp
    · unfold mfp; rw [HF.out, if_neg (by decide)]; exact Upd.set N 7 _ fp HN.out.mem
  | true =>
    rw [hf] at z1
    have HF := Lib.hid hf
    clear hf
    go_enter Tryz.func171, Tryz.ntmps171
    go_wp2_with fail
    go_region_with ((first
      | (go_at_call 213
         refine calls_named ?_
         intro W4 hW4
         have hbo : Below ws.heap.size ws W4 := by rw [hW4]; repeat (first | exact Below.refl _ _ | refine balloc ?_ _ | refine Below.drew ?_)
         have hb4 : Below w.heap.size w W4 := bthen HB1.out hbo
         clear hW4
         refine (histClone_any H0 x.past rh g0 W4 (HHI0.out.below hb4) (by omega)).mono ?_
         rintro e wh ⟨H, fh, rfl, h1, h2, h3⟩
         have hbn : Below w.heap.size w wh := bthen hb4 h3
         have h2' : ∀ k ∈ fh, w.heap.size ≤ k := fun k hk => by have := h2 k hk; have := hb4.size; omega
         obtain ⟨a4, a5, a6⟩ := box_cells hbn HX.out
         try rw [HF.out] at a4
         have HS9 := Lib.hid (HSE.out.below (bthen hbo h3))
         have HH9 := Lib.hid (h1)
         have HD9 := Lib.hid (show ∀ k ∈ fs, k ∉ fh from fun k hk hk' => by have := h2 k hk'; have := HSE.out.lt k hk; have := hbo.size; omega)
         have HF9 := Lib.hid (And.intro (show ∀ k ∈ fs, w.heap.size ≤ k from HSF.out) (show ∀ k ∈ fh, w.heap.size ≤ k from h2'))
         have HB9 := Lib.hid hbn
         clear h1 h2 h2' h3 hb4 hbn hbo)
      | (go_at_call 212
         refine calls_named ?_
         intro W4 hW4
         have hbo : Below wh.heap.size wh W4 := by rw [hW4]; repeat (first | exact Below.refl _ _ | refine balloc ?_ _ | refine Below.drew ?_)
         have hb4 : Below w.heap.size w W4 := bthen HB1.out hbo
         clear hW4
         refine (serClone_any S0 x.smp (rs : Nat) f0 W4 (HSE0.out.below hb4) hln).mono ?_
         rintro e ws ⟨S, fs, rfl, h1, h2, h3⟩
         have hbn : Below w.heap.size w ws := bthen hb4 h3
         have h2' : ∀ k ∈ fs, w.heap.size ≤ k := fun k hk => by have := h2 k hk; have := hb4.size; omega
         obtain ⟨a4, a5, a6⟩ := box_cells hbn HX.out
         try rw [HF.out] at a4
         have HS9 := Lib.hid (h1)
         have HH9 := Lib.hid (HHI.out.below (bthen hbo h3))
         have HD9 := Lib.hid (show ∀ k ∈ fs, k ∉ fh from fun k hk hk' => by have := h2 k hk; have := HHI.out.lt k hk'; have := hbo.size; omega)
         have HF9 := Lib.hid (And.intro (show ∀ k ∈ fs, w.heap.size ≤ k from h2') (show ∀ k ∈ fh, w.heap.size ≤ k from HHF.out))
         have HB9 := Lib.hid hbn
         clear h1 h2 h2' h3 hb4 hbn hbo)
      | (go_at_call 212
         refine calls_named ?_
         intro W4 hW4
         have hb4 : Below w.heap.size w W4 := by rw [hW4]; repeat (first | exact Below.refl _ _ | refine balloc ?_ _ | refine Below.drew ?_)
         clear hW4
         refine (serClone_any S0 x.smp (rs : Nat) f0 W4 (HSE0.out.below hb4) hln).mono ?_
         rintro e ws ⟨S, fs, rfl, h1, h2, h3⟩
         have hbn : Below w.heap.size w ws := bthen hb4 h3
         have h2' : ∀ k ∈ fs, w.heap.size ≤ k := fun k hk => by have := h2 k hk; have := hb4.size; omega
         obtain ⟨a4, a5, a6⟩ := box_cells hbn HX.out
         try rw [HF.out] at a4
         have HSE := Lib.hid h1
         have HSF := Lib.hid h2'
         have HB1 := Lib.hid hbn
         clear h1 h2 h2' h3 hb4 hbn)
      | (go_at_call 213
         refine calls_named ?_
         intro W4 hW4
         have hb4 : Below w.heap.size w W4 := by rw [hW4]; repeat (first | exact Below.refl _ _ | refine balloc ?_ _ | refine Below.drew ?_)
         clear hW4
         refine (histClone_any H0 x.past rh g0 W4 (HHI0.out.below hb4) (by omega)).mono ?_
         rintro e wh ⟨H, fh, rfl, h1, h2, h3⟩
         have hbn : Below w.heap.size w wh := bthen hb4 h3
         have h2' : ∀ k ∈ fh, w.heap.size ≤ k := fun k hk => by have := h2 k hk; have := hb4.size; omega
         obtain ⟨a4, a5, a6⟩ := box_cells hbn HX.out
         try rw [HF.out] at a4
         have HHI := Lib.hid h1
         have HHF := Lib.hid h2'
         have HB1 := Lib.hid hbn
         clear h1 h2 h2' h3 hb4 hbn)))
    all_goals go_wp2
    all_goals go_ret
    all_goals exact own_new HS9.out HH9.out HD9.out HF9.out.1 HF9.out.2 HB9.out H7.out h8 HF.out
end

section
set_option linter.unusedSimpArgs false
set_option linter.unusedVariables false
open Go.RowKit Go.Lib Go.Sort

set_option maxRecDepth 100000 in
set_option maxHeartbeats 4000000 in
theorem nodeSamples_any (N : Nat) (x : Nd) (rs rh : Nat) (fp : List Nat) (w : World) (h : NodeIn w N x rs rh fp) (hrs : rs ≤ 256) :
    Calls Tryz.prog 71 #[.pointer (some ⟨N, 0, none⟩)] w (CloneS smpC 42 2 w x.smp) := by
  have HM := Lib.hid (made_any N x rs rh fp w h)
  obtain ⟨S, fs, H, fh, h1, h2, h3, h4, h5, h6, hfp, h7, h8⟩ := h
  unfold ndC at h1
  have HS := Lib.hid h2
  have H1 := Lib.hid h1
  clear h1 h2 h3 h4 h5 h6 hfp h7
  go_enter Tryz.func71, Tryz.ntmps71
  go_wp2_with (first
    | (go_at_call 112
       refine HM.out.mono ?_
       rintro e w2 ⟨rfl, hb2⟩
       obtain ⟨a1, a2, a3⟩ := box_cells hb2 H1.out
       have HB2 := Lib.hid hb2
       clear hb2)
    | (go_at_call 137
       refine (serList_any S _ _ fs w2 (HS.out.below HB2.out) (by omega)).mono ?_
       rintro e w3 ⟨A, c, fq, rfl, hq, hf, hb3⟩
       have HQ := Lib.hid hq
       have HF := Lib.hid hf
       have HB3 := Lib.hid hb3
       clear hq hf hb3))
  go_ret
  have hs := HB2.out.size
  exact ⟨A, c, fq, rfl, HQ.out, fun k hk => Nat.le_trans hs (HF.out k hk), bthen HB2.out HB3.out⟩
end

section
set_option linter.unusedSimpArgs false
set_option linter.unusedVariables false
open Go.RowKit Go.Lib Go.Shelf
attribute [local go_sem] Oper.semAt_some

/-- What a round keeps. -/
def Kp (n₀ : Nat) (W W' : World) : Prop := Below n₀ W W' ∧ KeepsWalks W W'
theorem kp_t {n₀ : Nat} {A B C : World} (h : Kp n₀ A B) (k : Kp n₀ B C) : Kp n₀ A C := ⟨h.1.trans k.1, h.2.trans k.2⟩
theorem kp_b {n₀ : Nat} {w : World} (hn : n₀ ≤ w.heap.size) (W : World) (l : Nat) (o o' : Obj) (hl : w.heap.size ≤ l) (h : W.heap[l]? = some o) (hc : o.isCells = false) (hw : o.isWalk = false) : Kp n₀ W (W.putObj l o') :=
  ⟨belowK_b hn W l o o' hl h hc hw, walksK_b (w := w) W l o o' hl h hc hw⟩

/-- A key in a block of its own. -/
def KBox (W : World) (B : Nat) (x : Ky) : Prop := W.heap[B]? = some (.cells #[.int .u64 x.1, .int .u64 x.2] 40 (0, 0))
theorem KBox.lt {W : World} {B : Nat} {x : Ky} (h : KBox W B x) : B < W.heap.size := (Array.getElem?_eq_some_iff.1 h).1
theorem KBox.c0 {W : World} {B : Nat} {x : Ky} (h : KBox W B x) : W.cell? ⟨B, 0, none⟩ = some (.int .u64 x.1) := by simp [World.cell?, show W.heap[B]? = _ from h]
theorem KBox.c1 {W : World} {B : Nat} {x : Ky} (h : KBox W B x) : W.cell? ⟨B, 1, none⟩ = some (.int .u64 x.2) := by simp [World.cell?, show W.heap[B]? = _ from h]
theorem KBox.kept {W W' : World} {B : Nat} {x : Ky} {row : Option Nat} (h : KBox W B x) (hg : W.grownBy W' row) (hne : some B ≠ row) : KBox W' B x := (hg.block B h.lt hne).trans h
theorem kbox_own (B : Nat) (x : Ky) : Own (fun (_ : Unit) W => KBox W B x) := fun s X Y row hs hg hrow =>
  hs.kept hg (fun e' => by obtain ⟨o, ho, hc⟩ := hrow B e'.symm; rw [show X.heap[B]? = _ from hs] at ho; cases ho; cases hc)

abbrev encA (x : Ky) : Array Value := #[.agg #[.int .u64 x.1, .int .u64 x.2]]

set_option maxRecDepth 100000 in
set_option maxHeartbeats 2000000 in
theorem appendSeq_in (n : Nat) (hn : 2 ≤ n) (gf : Nat) (lb : Array Value) (eg : ∀ args w, (callFunc gf args).run Tryz.prog w = .ok (.enter gf args) w)
    (S Sp : List Ky → Prop) (N : Nat) (hN : N ≤ 1000000) (w : World) (hseq : ∀ w', Below w.heap.size w w' → SeqStopsK Fence.wide (n - 1) Tryz.prog gf lb encA (Kp w.heap.size) S Sp N w') :
    CallsIn Fence.wide n Tryz.prog 207 #[.slice none 0 0, .func (.func gf) #[] lb] w fun e w' => ∃ (v : Value) (ss : List Ky), e = .returned v ∧ S ss ∧ w'.ownsRow w.heap.size 40 2 v ss.length (cellsOfRow keyC ss) ∧ Below w.heap.size w w' := by
  have h1 : 1 ≤ n := by omega
  obtain ⟨i0, hi, hz0, hz1, hz2⟩ := info_parts key_info
  refine callsIn_of_wp_marks Tryz.func207 rfl trivial ?_ rfl
  simp only [Tryz.ntmps207, List.size_toArray, List.length_cons, List.length_nil, Nat.reduceAdd, Nat.reduceSub, Array.replicate_succ, Array.replicate_zero, List.push_toArray, List.append_toArray, List.nil_append, List.cons_append]
  gi_wp2
  have bS := Boxed.new w 70 (.slice none 0 0)
  have hB0 : Below w.heap.size w (w.alloc (.cells #[.slice none 0 0] 70)) := (Below.refl _ w).alloc (Nat.le_refl _) _
  have hsz : (w.alloc (.cells #[.slice none 0 0] 70)).heap.size = w.heap.size + 1 := by simp
  obtain ⟨W0, hW0⟩ : ∃ W0, w.alloc (.cells #[.slice none 0 0] 70) = W0 := ⟨_, rfl⟩
  rw [hW0] at bS hB0 hsz ⊢
  clear hW0
  refine wpIn_rangeFunc_ownH rfl h1 (gf := gf) (lb := lb) rfl trivial eg (hseq W0 hB0) kp_t (kp_b (by omega)) (Below.refl _ _) (fun _ => rfl)
    (fun pre W => (∃ v, Boxed W w.heap.size 70 v ∧ W.ownsRow w.heap.size 40 2 v pre.length (cellsOfRow keyC pre) ∧ True) ∧ Below w.heap.size w W)
    (fun _ _ _ => False)
    (OwnFrom.and (Own.from (holdsRow_own w.heap.size w.heap.size 70 40 2 (fun pre => pre.length) (fun pre => cellsOfRow keyC pre) (fun _ _ => True)) _) (ownFrom_below (Nat.le_refl _) (by omega)))
    (fun _ _ _ _ _ hs _ _ => hs)
    ⟨⟨_, bS, World.ownsRow_nil _ _ _ _, trivial⟩, hB0⟩
    (fun x a' W => ∃ Bx, w.heap.size < Bx ∧ KBox W Bx x ∧ a' = { tmps := #[.slice none 0 0, .func (.func gf) #[] lb, .pointer (some ⟨w.heap.size, 0, none⟩), undef, .slice none 0 0, .pointer (some ⟨Bx, 0, none⟩), .func (.func gf) #[] lb, .agg #[.int .u64 x.1, .int .u64 x.2], undef, undef, undef, undef, undef], defers := [] })
    (fun x a' _ X Y row hs hg hr => by obtain ⟨Bx, h1, h2, h3⟩ := hs; exact ⟨Bx, h1, kbox_own Bx x () X Y row h2 hg (fun r e => (hr r e).2), h3⟩)
    ?assign ?body ?done ?stop
  case assign =>
    rintro l pre x W K ⟨⟨v, hv, hrow, _⟩, hB⟩ hK
    have hs := hB.size
    gi_wp2
    have hW : Below W.heap.size W (W.alloc (.cells #[.int .u64 x.1, .int .u64 x.2] 40)) := (Below.refl _ W).alloc (Nat.le_refl _) _
    exact hK _ _ ((KeepsOthers.alloc _ _).from _) ⟨hW.mono hs, KeepsWalks.alloc _ _⟩
      ⟨⟨v, (hW.block _ hv.lt).trans hv, own_below hrow hW, trivial⟩, hB.trans (hW.mono hs)⟩ ⟨W.heap.size, hv.lt, World.alloc_heap_new W _, rfl⟩
  case body =>
    rintro l pre x a' W hl ⟨r, hr⟩ ⟨⟨v, hv, hrow, _⟩, hB⟩ ⟨Bx, hBx, bX, rfl⟩ hlt
    have hc := hv.cell
    have k0 := bX.c0
    have k1 := bX.c1
    have hs := hB.size
    have hpl : pre.length < 1000000 := by omega
    gi_wp2_with (gi_at_builtin; refine wpListIn_append_own _ rfl _ _ 70 rfl w.heap.size 40 i0 (.agg #[.int .u64 0, .int .u64 0]) 2 16 Tryz.underlying70 hi hz0 hz1 hz2 rfl (by decide) _ _ _ rfl (hrow.alloc _) ⟨W.heap.size, 0, none⟩ 1 1 (keyC x) rfl rfl (news_new _ _ _ _ rfl) (keyC_one x) (by simp only [maxLen]; omega) (by omega) (by simp; omega) ?_; intro v' w1 hown' hgrow _; obtain ⟨g', cap', rfl⟩ := ownsRow_succ hown'; obtain ⟨hv1, hv2, hr2, hk2, hb2⟩ := hv.appended (by decide) hrow hB.size (Nat.le_refl _) hown' hgrow; have hc1 := hv1.cell; have hf1 := hv1.frozen)
    have e1 : (pre ++ [x]).length = pre.length + 1 := by simp
    have e2 : cellsOfRow keyC (pre ++ [x]) = cellsOfRow keyC pre ++ keyC x := by rw [cellsOfRow_append]; simp [cellsOfRow]
    exact ⟨hk2.from _, ⟨hb2, hk2.walks⟩, ⟨_, hv2, by rw [e1, e2]; exact hr2, trivial⟩, hB.trans hb2⟩
  case done =>
    rintro D ys W hD hS ⟨⟨v, hv, hrow, _⟩, hB⟩ hK
    have hc := hv.cell
    gi_wp2
    refine ⟨by simp, .inl ⟨_, _, rfl, run_takeDeferred hK, ?_⟩⟩
    exact ⟨_, results_tmp rfl _ _ _, v, ys, rfl, hS, ownsRow_putObj hrow _ hK rfl, hB.trans (belowK_b (w := w) (Nat.le_refl _) W D _ _ (by omega) hK rfl rfl)⟩
  case stop =>
    rintro D c pre W _ _ h _
    exact h.elim

theorem stops_later {n gf : Nat} {lb : Array Value} {Kq : World → World → Prop} {S Sp : List Ky → Prop} {N : Nat} {w w' : World} (hb : Below w.heap.size w w') (h : SeqStopsK Fence.wide n Tryz.prog gf lb encA Kq S Sp N w) : SeqStopsK Fence.wide n Tryz.prog gf lb encA Kq S Sp N w' :=
  fun l J Jx W hW h1 h2 h3 h4 => h l J Jx W (hb.trans (hW.mono hb.size)) h1 h2 h3 h4

set_option maxRecDepth 100000 in
set_option maxHeartbeats 2000000 in
theorem collect_in (n : Nat) (hn : 3 ≤ n) (gf : Nat) (lb : Array Value) (eg : ∀ args w, (callFunc gf args).run Tryz.prog w = .ok (.enter gf args) w)
    (S Sp : List Ky → Prop) (N : Nat) (hN : N ≤ 1000000) (w : World) (hseq : SeqStopsK Fence.wide (n - 1 - 1) Tryz.prog gf lb encA (Kp w.heap.size) S Sp N w) :
    CallsIn Fence.wide n Tryz.prog 167 #[.func (.func gf) #[] lb] w fun e w' => ∃ (v : Value) (ss : List Ky), e = .returned v ∧ S ss ∧ w'.ownsRow w.heap.size 40 2 v ss.length (cellsOfRow keyC ss) ∧ Below w.heap.size w w' := by
  have h1 : 1 ≤ n := by omega
  have e11 : ∀ args w, (callFunc 207 args).run Tryz.prog w = .ok (.enter 207 args) w := enters_of Tryz.func207 (by kernel_rfl) rfl
  refine callsIn_of_wp Tryz.func167 rfl trivial ?_ rfl
  simp only [Tryz.ntmps167, List.size_toArray, List.length_cons, List.length_nil, Nat.reduceAdd, Nat.reduceSub, Array.replicate_succ, Array.replicate_zero, List.push_toArray, List.append_toArray, List.nil_append, List.cons_append]
  gi_wp2_with (refine ⟨trivial, ?_⟩; gi_at_call 207; refine (appendSeq_in (n - 1) (by omega) gf lb eg S Sp N hN _ (fun w' hb => stops_later hb hseq)).mono ?_; rintro e w' ⟨v, ss, rfl, hS, hrow, hb⟩)

  go_ret
  exact ⟨v, ss, rfl, hS, hrow, hb⟩
end

section
set_option linter.unusedSimpArgs false
set_option linter.unusedVariables false
open Go.RowKit Go.Lib Go.Shelf
attribute [local go_sem] Oper.semAt_some

def intOf : Value → Int
  | .int _ i => i
  | _ => 0

/-- A queue that lies there, to be read. -/
def FR (w : World) (g o : Nat) (vf vb : Value) (f b : List Ky) : Prop :=
  w.cell? ⟨g, o, none⟩ = some vf ∧ w.cell? ⟨g, o + 1, none⟩ = some vb ∧ RowIn 2 keyC w vf f ∧ RowIn 2 keyC w vb b
theorem FR.below {w w' : World} {g o : Nat} {vf vb : Value} {f b : List Ky} (h : FR w g o vf vb f b) (hb : Below w.heap.size w w') : FR w' g o vf vb f b := by
  have hlt : g < w.heap.size := World.block_lt_of_cell? w ⟨g, o, none⟩ h.1
  obtain ⟨h1, h2, h3, h4⟩ := h
  exact ⟨(hb.cell (p := ⟨g, o, none⟩) hlt).trans h1, (hb.cell (p := ⟨g, o + 1, none⟩) hlt).trans h2, h3.below hb, h4.below hb⟩

/-- What a list that a call lays is. -/
def Lists (w : World) (ss : List Ky) (e : Ending) (w' : World) : Prop :=
  ∃ v, e = .returned v ∧ w'.ownsRow w.heap.size 40 2 v ss.length (cellsOfRow keyC ss) ∧ Below w.heap.size w w'
end

end Go.Proofs.YtfegielnmdppgaaGreat
