/- node.Node in memory: made, New, own; node.Put, Trim, Set, Note; the laws of a node's parts. -/
import Derived.Test.YtmniiodpbebnmaaGreatJ11
namespace Go.Proofs.YtmniiodpbebnmaaGreat

section
set_option linter.unusedSimpArgs false
set_option linter.unusedVariables false
open Go.RowKit Go.Lib Go.Sort

/-- A workload. -/
structure Nd where
  pol : Pol
  ruled : Bool
  ver : Nat
  smp : List Smp
  past : List Adv
  frz : Bool
def pol0 : Pol := ⟨0, 0, 0, 0, 0, 0⟩
def nd0 : Nd := ⟨pol0, false, 0, [], [], false⟩
def ndC (x : Nd) (S H : Nat) : Array Value := #[.int .i64 x.pol.mn, .int .i64 x.pol.mx, .int .i64 x.pol.tg, .int .i64 x.pol.tol, .int .i64 x.pol.win, .int .i64 x.pol.hold, .bool x.ruled, .int .i64 (x.ver : Nat), .pointer (some ⟨S, 0, none⟩), .pointer (some ⟨H, 0, none⟩), .bool x.frz]
def NodeIn (w : World) (N : Nat) (x : Nd) (rs rh : Nat) (fp : List Nat) : Prop :=
  ∃ S fs H fh, w.heap[N]? = some (.cells (ndC x S H) 258 (0, 0)) ∧ SerIn w S x.smp (rs : Nat) fs ∧ HistIn w H x.past rh fh ∧ N ∉ fs ∧ N ∉ fh ∧ (∀ k ∈ fs, k ∉ fh) ∧ fp = N :: (fs ++ fh) ∧ risingS x.smp ∧ x.smp.length ≤ rs
theorem NodeIn.kept {w w' : World} {N : Nat} {x : Nd} {rs rh : Nat} {fp : List Nat} (h : NodeIn w N x rs rh fp) (hb : ∀ r ∈ fp, w'.heap[r]? = w.heap[r]?) : NodeIn w' N x rs rh fp := by
  obtain ⟨S, fs, H, fh, h1, h2, h3, h4, h5, h6, rfl, h7⟩ := h
  exact ⟨S, fs, H, fh, (hb N (List.mem_cons_self ..)).trans h1, h2.kept (fun r hr => hb r (List.mem_cons_of_mem _ (List.mem_append_left _ hr))), h3.kept (fun r hr => hb r (List.mem_cons_of_mem _ (List.mem_append_right _ hr))), h4, h5, h6, rfl, h7⟩
theorem NodeIn.lt {w : World} {N : Nat} {x : Nd} {rs rh : Nat} {fp : List Nat} (h : NodeIn w N x rs rh fp) : ∀ r ∈ fp, r < w.heap.size := by
  obtain ⟨S, fs, H, fh, h1, h2, h3, h4, h5, h6, rfl, h7⟩ := h
  intro r hr
  rcases List.mem_cons.1 hr with rfl | hr
  · exact (Array.getElem?_eq_some_iff.1 h1).1
  · exact (List.mem_append.1 hr).elim (h2.lt r) (h3.lt r)
theorem NodeIn.below {w w' : World} {N : Nat} {x : Nd} {rs rh : Nat} {fp : List Nat} (h : NodeIn w N x rs rh fp) (hb : Below w.heap.size w w') : NodeIn w' N x rs rh fp := h.kept (fun r hr => hb.block r (h.lt r hr))
theorem NodeIn.mem {w : World} {N : Nat} {x : Nd} {rs rh : Nat} {fp : List Nat} (h : NodeIn w N x rs rh fp) : N ∈ fp := by
  obtain ⟨S, fs, H, fh, h1, h2, h3, h4, h5, h6, rfl, h7⟩ := h
  exact List.mem_cons_self ..
def NewNode (w : World) (x : Nd) (rs rh : Nat) (e : Ending) (w' : World) : Prop :=
  ∃ N fp, e = .returned (.pointer (some ⟨N, 0, none⟩)) ∧ NodeIn w' N x rs rh fp ∧ (∀ k ∈ fp, w.heap.size ≤ k) ∧ Below w.heap.size w w'
/-- What of a node may turn. -/
def mfp (x : Nd) (fp : List Nat) : List Nat := if x.frz = true then [] else fp

theorem node_new {w w9 : World} {S H : Nat} {fs fh : List Nat} {x : Nd} {rs rh : Nat} (hS : SerIn w9 S x.smp (rs : Nat) fs) (hH : HistIn w9 H x.past rh fh) (hd : ∀ k ∈ fs, k ∉ fh) (h1 : ∀ k ∈ fs, w.heap.size ≤ k) (h2 : ∀ k ∈ fh, w.heap.size ≤ k) (hb : Below w.heap.size w w9) (hr : risingS x.smp) (hl : x.smp.length ≤ rs) :
    NewNode w x rs rh (.returned (.pointer (some ⟨w9.heap.size, 0, none⟩))) (w9.alloc (.cells (ndC x S H) 258)) :=
  ⟨w9.heap.size, w9.heap.size :: (fs ++ fh), rfl, ⟨S, fs, H, fh, heap_alloc_new _ _, hS.below (balloc (Below.refl _ _) _), hH.below (balloc (Below.refl _ _) _), fun h => by have := hS.lt _ h; omega, fun h => by have := hH.lt _ h; omega, hd, rfl, hr, hl⟩,
    fun k hk => by
      rcases List.mem_cons.1 hk with rfl | hk
      · exact hb.size
      · exact (List.mem_append.1 hk).elim (h1 k) (h2 k), balloc hb _⟩

theorem node_set {w : World} {N : Nat} {x y : Nd} {rs rh : Nat} {fp : List Nat} {i : Nat} {v : Value} (h : NodeIn w N x rs rh fp) (e : ∀ S H, (ndC x S H).setIfInBounds i v = ndC y S H) (es : y.smp = x.smp) (ep : y.past = x.past) : NodeIn (w.setCell ⟨N, i, none⟩ v) N y rs rh fp := by
  obtain ⟨S, fs, H, fh, h1, h2, h3, h4, h5, h6, rfl, h7, h8⟩ := h
  exact ⟨S, fs, H, fh, (setCell_block h1).trans (by rw [e]), by rw [es]; exact h2.kept (fun r hr => Below.heap_setCell _ _ _ _ (fun e => h4 (by have e' : r = N := e; rw [← e']; exact hr))), by rw [ep]; exact h3.kept (fun r hr => Below.heap_setCell _ _ _ _ (fun e => h5 (by have e' : r = N := e; rw [← e']; exact hr))), h4, h5, h6, rfl, by rw [es]; exact h7, by rw [es]; exact h8⟩
def bump (x : Nd) : Nd := { x with ver := x.ver + 1, frz := false }
def OwnS (w : World) (x : Nd) (rs rh : Nat) (fp : List Nat) (e : Ending) (w' : World) : Prop :=
  ∃ N fp', e = .returned (.pointer (some ⟨N, 0, none⟩)) ∧ NodeIn w' N (bump x) rs rh fp' ∧ Upd w w' (mfp x fp) fp'

theorem own_new {w w9 : World} {S H : Nat} {fs fh fp : List Nat} {x : Nd} {rs rh : Nat} (hS : SerIn w9 S x.smp (rs : Nat) fs) (hH : HistIn w9 H x.past rh fh) (hd : ∀ k ∈ fs, k ∉ fh) (h1 : ∀ k ∈ fs, w.heap.size ≤ k) (h2 : ∀ k ∈ fh, w.heap.size ≤ k) (hb : Below w.heap.size w w9) (hr : risingS x.smp) (hl : x.smp.length ≤ rs) (hf : x.frz = true) :
    OwnS w x rs rh fp (.returned (.pointer (some ⟨w9.heap.size, 0, none⟩))) (w9.alloc (.cells (ndC (bump x) S H) 258)) := by
  obtain ⟨N, fp', e, hn, hf', hb'⟩ := node_new (x := bump x) hS hH hd h1 h2 hb hr hl
  refine ⟨N, fp', e, hn, ?_⟩
  unfold mfp
  rw [hf, if_pos rfl]
  exact ⟨hb'.os, hb'.tape, hb'.output, hb'.size, fun k hk _ => hb'.block k hk, fun k hk => .inr (hf' k hk)⟩

set_option maxRecDepth 100000 in
set_option maxHeartbeats 4000000 in
theorem made_any (N : Nat) (x : Nd) (rs rh : Nat) (fp : List Nat) (w : World) (h : NodeIn w N x rs rh fp) :
    Calls Tryz.prog 174 #[.pointer (some ⟨N, 0, none⟩)] w fun e w' => e = .returned (.bool true) ∧ Below w.heap.size w w' := by
  obtain ⟨S, fs, H, fh, h1, h2, h3, h4, h5, h6, rfl, h7⟩ := h
  have z0 : w.cell? ⟨N, 8, none⟩ = some (.pointer (some ⟨S, 0, none⟩)) := by simp only [World.cell?, h1]; rfl
  clear h1 h2 h3 h4 h5 h6 h7
  go_enter Tryz.func174, Tryz.ntmps174
  go_wp2
  go_ret
  exact ⟨rfl, Below.refl _ _⟩

set_option maxRecDepth 100000 in
set_option maxHeartbeats 4000000 in
theorem nodeNew_any (c : Cfg) (rs rh : Nat) (w : World) (hc : cfgB c = true) (hrs : c.sa = (rs : Nat)) (hrh : c.hi = (rh : Nat)) (hok : c.ok) :
    Calls Tryz.prog 156 #[cfgV c] w (NewNode w nd0 rs rh) := by
  have hb : 1 ≤ rs ∧ rs ≤ 256 ∧ 1 ≤ rh ∧ rh ≤ 64 := by
    unfold cfgB at hc
    simp only [Bool.and_eq_true, decide_eq_true_eq] at hc
    omega
  have hE : cfgE c = 0 := by unfold cfgE; rw [if_pos hc]
  have HE := Lib.hid hE
  obtain ⟨st, sa, lo, hi⟩ := c
  dsimp only at hrs hrh
  subst hrs hrh
  have HNR := Lib.hid (nodeRight_any ⟨st, (rs : Nat), lo, (rh : Nat)⟩)
  clear hc hE
  unfold cfgV
  go_enter Tryz.func156, Tryz.ntmps156
  go_wp2_with (go_at_call 46
               refine calls_named ?_
               intro W1 hW1
               have hb1 : Below w.heap.size w W1 := by rw [hW1]; exact balloc (Below.refl _ _) _
               have hx1 : W1.heap[w.heap.size]? = some (.cells #[.int .i64 st, .int .i64 (rs : Nat), .int .i64 lo, .int .i64 (rh : Nat)] 23 (0, 0)) := by rw [hW1]; exact heap_alloc_new _ _
               clear hW1
               refine (HNR.out W1 hok).mono ?_
               rw [HE.out]
               rintro e w2 ⟨rfl, hb2⟩
               obtain ⟨a1, a2, a3⟩ := box_cells hb2 hx1
               have HX := Lib.hid ((hb2.block w.heap.size (Array.getElem?_eq_some_iff.1 hx1).1).trans hx1)
               have HBX := Lib.hid (bthen hb1 hb2)
               clear hb1 hx1 hb2)
  go_region_with ((first
      | (go_at_call 211
         refine calls_named ?_
         intro W4 hW4
         have hbo : Below ws.heap.size ws W4 := by rw [hW4]; repeat (first | exact Below.refl _ _ | refine balloc ?_ _ | refine Below.drew ?_)
         have hb4 : Below w2.heap.size w2 W4 := bthen HB1.out hbo
         clear hW4
         refine (histNew_any rh W4 hb.2.2.1 (by omega)).mono ?_
         rintro e wh ⟨H, fh, rfl, h1, h2, h3⟩
         have hbn : Below w2.heap.size w2 wh := bthen hb4 h3
         have h2' : ∀ k ∈ fh, w2.heap.size ≤ k := fun k hk => by have := h2 k hk; have := hb4.size; omega
         obtain ⟨a4, a5, a6⟩ := box_cells hbn HX.out
         have HS9 := Lib.hid (HSE.out.below (bthen hbo h3))
         have HH9 := Lib.hid (h1)
         have HD9 := Lib.hid (show ∀ k ∈ fs, k ∉ fh from fun k hk hk' => by have := h2 k hk'; have := HSE.out.lt k hk; have := hbo.size; omega)
         have HF9 := Lib.hid (And.intro (show ∀ k ∈ fs, w2.heap.size ≤ k from HSF.out) (show ∀ k ∈ fh, w2.heap.size ≤ k from h2'))
         have HB9 := Lib.hid hbn
         clear h1 h2 h2' h3 hb4 hbn hbo)
      | (go_at_call 193
         refine calls_named ?_
         intro W4 hW4
         have hbo : Below wh.heap.size wh W4 := by rw [hW4]; repeat (first | exact Below.refl _ _ | refine balloc ?_ _ | refine Below.drew ?_)
         have hb4 : Below w2.heap.size w2 W4 := bthen HB1.out hbo
         clear hW4
         refine (serNew_any (rs : Nat) W4 (by omega) (by omega)).mono ?_
         rintro e ws ⟨S, fs, rfl, h1, h2, h3⟩
         have hbn : Below w2.heap.size w2 ws := bthen hb4 h3
         have h2' : ∀ k ∈ fs, w2.heap.size ≤ k := fun k hk => by have := h2 k hk; have := hb4.size; omega
         obtain ⟨a4, a5, a6⟩ := box_cells hbn HX.out
         have HS9 := Lib.hid (h1)
         have HH9 := Lib.hid (HHI.out.below (bthen hbo h3))
         have HD9 := Lib.hid (show ∀ k ∈ fs, k ∉ fh from fun k hk hk' => by have := h2 k hk; have := HHI.out.lt k hk'; have := hbo.size; omega)
         have HF9 := Lib.hid (And.intro (show ∀ k ∈ fs, w2.heap.size ≤ k from h2') (show ∀ k ∈ fh, w2.heap.size ≤ k from HHF.out))
         have HB9 := Lib.hid hbn
         clear h1 h2 h2' h3 hb4 hbn hbo)
      | (go_at_call 193
         refine calls_named ?_
         intro W4 hW4
         have hb4 : Below w2.heap.size w2 W4 := by rw [hW4]; repeat (first | exact Below.refl _ _ | refine balloc ?_ _ | refine Below.drew ?_)
         clear hW4
         refine (serNew_any (rs : Nat) W4 (by omega) (by omega)).mono ?_
         rintro e ws ⟨S, fs, rfl, h1, h2, h3⟩
         have hbn : Below w2.heap.size w2 ws := bthen hb4 h3
         have h2' : ∀ k ∈ fs, w2.heap.size ≤ k := fun k hk => by have := h2 k hk; have := hb4.size; omega
         obtain ⟨a4, a5, a6⟩ := box_cells hbn HX.out
         have HSE := Lib.hid h1
         have HSF := Lib.hid h2'
         have HB1 := Lib.hid hbn
         clear h1 h2 h2' h3 hb4 hbn)
      | (go_at_call 211
         refine calls_named ?_
         intro W4 hW4
         have hb4 : Below w2.heap.size w2 W4 := by rw [hW4]; repeat (first | exact Below.refl _ _ | refine balloc ?_ _ | refine Below.drew ?_)
         clear hW4
         refine (histNew_any rh W4 hb.2.2.1 (by omega)).mono ?_
         rintro e wh ⟨H, fh, rfl, h1, h2, h3⟩
         have hbn : Below w2.heap.size w2 wh := bthen hb4 h3
         have h2' : ∀ k ∈ fh, w2.heap.size ≤ k := fun k hk => by have := h2 k hk; have := hb4.size; omega
         obtain ⟨a4, a5, a6⟩ := box_cells hbn HX.out
         have HHI := Lib.hid h1
         have HHF := Lib.hid h2'
         have HB1 := Lib.hid hbn
         clear h1 h2 h2' h3 hb4 hbn)))
  all_goals go_wp2
  all_goals go_ret
  all_goals exact node_new (x := nd0) HS9.out HH9.out HD9.out (fun k hk => Nat.le_trans HBX.out.size (HF9.out.1 k hk)) (fun k hk => Nat.le_trans HBX.out.size (HF9.out.2 k hk)) (bthen HBX.out HB9.out) List.Pairwise.nil (Nat.zero_le _)

set_option maxRecDepth 100000 in
set_option maxHeartbeats 4000000 in
theorem own_any (N : Nat) (x : Nd) (rs rh : Nat) (fp : List Nat) (w : World) (h : NodeIn w N x rs rh fp) (hrs : rs ≤ 256) (hrh : rh ≤ 64) (hv : x.ver ≤ 1000000) :
    Calls Tryz.prog 207 #[.pointer (some ⟨N, 0, none⟩)] w (OwnS w x rs rh fp) := by
  have HN := Lib.hid h
  have hw : IntKind.i64.wrap ((x.ver : Int) + 1) = ((x.ver + 1 : Nat) : Int) := by rw [IntKind.wrap_i64]; omega
  obtain ⟨S0, f0, H0, g0, h1, h2, h3, h4, h5, h6, hfp, h7, h8⟩ := h
  have hlt := (Array.getElem?_eq_some_iff.1 h1).1
  unfold ndC at h1
  obtain ⟨z1, z2, z3⟩ := box_cells (Below.refl _ _) h1
  have HX := Lib.hid h1
  have HSE0 := Lib.hid h2
  have HHI0 := Lib.hid h3
  have H7 := Lib.hid h7
  have hln : x.smp.length ≤ 1000000 := by omega
  clear h1 h2 h3 h7
  cases hf : x.frz with
  | false =>
    rw [hf] at z1
    have HF := Lib.hid hf
    clear hf
    go_enter Tryz.func207, Tryz.ntmps207
    go_wp2
    go_ret
    refine ⟨N, fp, rfl, node_set (x := x) (y := bump x) HN.out (fun S H => ?_) rfl rfl, ?_⟩
    · unfold ndC bump; rw [HF.out]; simp
    · unfold mfp; rw [HF.out, if_neg (by decide)]; exact Upd.set N 7 _ fp HN.out.mem
  | true =>
    rw [hf] at z1
    have HF := Lib.hid hf
    clear hf
    go_enter Tryz.func207, Tryz.ntmps207
    go_wp2_with fail
    go_region_with ((first
      | (go_at_call 256
         refine calls_named ?_
         intro W4 hW4
         have hbo : Below ws.heap.size ws W4 := by rw [hW4]; repeat (first | exact Below.refl _ _ | refine balloc ?_ _ | refine Below.drew ?_)
         have hb4 : Below w.heap.size w W4 := bthen HB1.out hbo
         clear hW4
         refine (histClone_any H0 x.past rh g0 W4 (HHI0.out.below hb4) (by omega)).mono ?_
         rintro e wh ⟨H, fh, rfl, h1, h2, h3⟩
         have hbn : Below w.heap.size w wh := bthen hb4 h3
         have h2' : ∀ k ∈ fh, w.heap.size ≤ k := fun k hk => by have := h2 k hk; have := hb4.size; omega
         obtain ⟨a4, a5, a6⟩ := box_cells hbn HX.out
         try rw [HF.out] at a4
         have HS9 := Lib.hid (HSE.out.below (bthen hbo h3))
         have HH9 := Lib.hid (h1)
         have HD9 := Lib.hid (show ∀ k ∈ fs, k ∉ fh from fun k hk hk' => by have := h2 k hk'; have := HSE.out.lt k hk; have := hbo.size; omega)
         have HF9 := Lib.hid (And.intro (show ∀ k ∈ fs, w.heap.size ≤ k from HSF.out) (show ∀ k ∈ fh, w.heap.size ≤ k from h2'))
         have HB9 := Lib.hid hbn
         clear h1 h2 h2' h3 hb4 hbn hbo)
      | (go_at_call 255
         refine calls_named ?_
         intro W4 hW4
         have hbo : Below wh.heap.size wh W4 := by rw [hW4]; repeat (first | exact Below.refl _ _ | refine balloc ?_ _ | refine Below.drew ?_)
         have hb4 : Below w.heap.size w W4 := bthen HB1.out hbo
         clear hW4
         refine (serClone_any S0 x.smp (rs : Nat) f0 W4 (HSE0.out.below hb4) hln).mono ?_
         rintro e ws ⟨S, fs, rfl, h1, h2, h3⟩
         have hbn : Below w.heap.size w ws := bthen hb4 h3
         have h2' : ∀ k ∈ fs, w.heap.size ≤ k := fun k hk => by have := h2 k hk; have := hb4.size; omega
         obtain ⟨a4, a5, a6⟩ := box_cells hbn HX.out
         try rw [HF.out] at a4
         have HS9 := Lib.hid (h1)
         have HH9 := Lib.hid (HHI.out.below (bthen hbo h3))
         have HD9 := Lib.hid (show ∀ k ∈ fs, k ∉ fh from fun k hk hk' => by have := h2 k hk; have := HHI.out.lt k hk'; have := hbo.size; omega)
         have HF9 := Lib.hid (And.intro (show ∀ k ∈ fs, w.heap.size ≤ k from h2') (show ∀ k ∈ fh, w.heap.size ≤ k from HHF.out))
         have HB9 := Lib.hid hbn
         clear h1 h2 h2' h3 hb4 hbn hbo)
      | (go_at_call 255
         refine calls_named ?_
         intro W4 hW4
         have hb4 : Below w.heap.size w W4 := by rw [hW4]; repeat (first | exact Below.refl _ _ | refine balloc ?_ _ | refine Below.drew ?_)
         clear hW4
         refine (serClone_any S0 x.smp (rs : Nat) f0 W4 (HSE0.out.below hb4) hln).mono ?_
         rintro e ws ⟨S, fs, rfl, h1, h2, h3⟩
         have hbn : Below w.heap.size w ws := bthen hb4 h3
         have h2' : ∀ k ∈ fs, w.heap.size ≤ k := fun k hk => by have := h2 k hk; have := hb4.size; omega
         obtain ⟨a4, a5, a6⟩ := box_cells hbn HX.out
         try rw [HF.out] at a4
         have HSE := Lib.hid h1
         have HSF := Lib.hid h2'
         have HB1 := Lib.hid hbn
         clear h1 h2 h2' h3 hb4 hbn)
      | (go_at_call 256
         refine calls_named ?_
         intro W4 hW4
         have hb4 : Below w.heap.size w W4 := by rw [hW4]; repeat (first | exact Below.refl _ _ | refine balloc ?_ _ | refine Below.drew ?_)
         clear hW4
         refine (histClone_any H0 x.past rh g0 W4 (HHI0.out.below hb4) (by omega)).mono ?_
         rintro e wh ⟨H, fh, rfl, h1, h2, h3⟩
         have hbn : Below w.heap.size w wh := bthen hb4 h3
         have h2' : ∀ k ∈ fh, w.heap.size ≤ k := fun k hk => by have := h2 k hk; have := hb4.size; omega
         obtain ⟨a4, a5, a6⟩ := box_cells hbn HX.out
         try rw [HF.out] at a4
         have HHI := Lib.hid h1
         have HHF := Lib.hid h2'
         have HB1 := Lib.hid hbn
         clear h1 h2 h2' h3 hb4 hbn)))
    all_goals go_wp2
    all_goals go_ret
    all_goals exact own_new HS9.out HH9.out HD9.out HF9.out.1 HF9.out.2 HB9.out H7.out h8 HF.out
end

section
set_option linter.unusedSimpArgs false
set_option linter.unusedVariables false
open Go.RowKit Go.Lib Go.Sort

def NdSays (w : World) (y : Nd) (rs rh : Nat) (mf : List Nat) (mk : Value → Value) (e : Ending) (w' : World) : Prop :=
  ∃ N fp', e = .returned (mk (.pointer (some ⟨N, 0, none⟩))) ∧ NodeIn w' N y rs rh fp' ∧ Upd w w' mf fp'

theorem node_ser {w1 w2 : World} {N S H : Nat} {x : Nd} {rs rh : Nat} {fs fh fs' : List Nat} {l' : List Smp} (h1 : w1.heap[N]? = some (.cells (ndC x S H) 258 (0, 0))) (hH : HistIn w1 H x.past rh fh) (h4 : N ∉ fs) (h5 : N ∉ fh) (h6 : ∀ k ∈ fs, k ∉ fh)
    (hS : SerIn w2 S l' (rs : Nat) fs') (hu : Upd w1 w2 fs fs') (hr : risingS l') (hl : l'.length ≤ rs) : NodeIn w2 N { x with smp := l' } rs rh (N :: (fs' ++ fh)) ∧ Upd w1 w2 (N :: (fs ++ fh)) (N :: (fs' ++ fh)) := by
  have hlt := (Array.getElem?_eq_some_iff.1 h1).1
  have hfr : ∀ k, k ∈ fs' → k < w1.heap.size → k ∈ fs := fun k hk hl => (hu.fresh k hk).elim id (fun h => by omega)
  refine ⟨⟨S, fs', H, fh, (hu.block N hlt h4).trans h1, hS, hH.kept (fun r hr => hu.block r (hH.lt r hr) (fun h => h6 r h hr)), fun h => h4 (hfr N h hlt), h5, fun k hk hk' => h6 k (hfr k hk (hH.lt k hk')) hk', rfl, hr, hl⟩, hu.mono (fun k hk => List.mem_cons_of_mem _ (List.mem_append_left _ hk)) (fun k hk => ?_)⟩
  rcases List.mem_cons.1 hk with rfl | hk
  · exact .inl (List.mem_cons_self ..)
  · rcases List.mem_append.1 hk with hk | hk
    · exact (hu.fresh k hk).imp (fun h => List.mem_cons_of_mem _ (List.mem_append_left _ h)) id
    · exact .inl (List.mem_cons_of_mem _ (List.mem_append_right _ hk))
theorem placeS_lt {l : List Smp} (hr : risingS l) (t : Int) : ∀ i (h : i < l.length), (i < placeS l t ↔ l[i].1 < t) := by
  induction l with
  | nil => intro i h; simp at h
  | cons a l ih =>
    have hr' : risingS l := (List.pairwise_cons.1 hr).2
    have ha := (List.pairwise_cons.1 hr).1
    intro i h
    by_cases hta : t ≤ a.1
    · have h0 : placeS (a :: l) t = 0 := by
        unfold placeS
        rw [List.countP_eq_zero]
        intro y hy
        rcases List.mem_cons.1 hy with rfl | hy
        · simp [hta]
        · have := ha y hy; simp; omega
      rw [h0]
      refine iff_of_false (by omega) ?_
      cases i with
      | zero => simp; omega
      | succ i => have := ha _ (List.getElem_mem (by simpa using h : i < l.length)); simp; omega
    · have h1 : placeS (a :: l) t = placeS l t + 1 := by unfold placeS; rw [List.countP_cons]; simp; omega
      rw [h1]
      cases i with
      | zero => simp; omega
      | succ i => have := ih hr' i (by simpa using h); simp; omega
theorem rising_drop {l : List Smp} (hr : risingS l) (n : Nat) : risingS (l.drop n) := hr.sublist (List.drop_sublist n l)
theorem rising_cut {l : List Smp} (hr : risingS l) (room : Int) : risingS (cutS room l) := by
  unfold cutS
  split
  · exact rising_drop hr 1
  · exact hr
theorem mem_take_lt {l : List Smp} (hr : risingS l) (t : Int) {a : Smp} (h : a ∈ l.take (placeS l t)) : a.1 < t := by
  obtain ⟨i, hi, rfl⟩ := List.getElem_of_mem h
  simp only [List.length_take] at hi
  rw [List.getElem_take]
  exact (placeS_lt hr t i (by omega)).1 (by omega)
theorem mem_drop_ge {l : List Smp} (hr : risingS l) (t : Int) {a : Smp} (h : a ∈ l.drop (placeS l t)) : t ≤ a.1 := by
  obtain ⟨i, hi, rfl⟩ := List.getElem_of_mem h
  simp only [List.length_drop] at hi
  rw [List.getElem_drop]
  have hi' : placeS l t + i < l.length := by omega
  have h2 := placeS_lt hr t (placeS l t + i) hi'
  by_cases h3 : l[placeS l t + i].1 < t
  · have := h2.2 h3; omega
  · omega
theorem rising_ins {l : List Smp} (hr : risingS l) (x : Smp) (h : hitS l x = false) : risingS (insS l x) := by
  unfold insS risingS
  have hge : ∀ a ∈ l.drop (placeS l x.1), x.1 < a.1 := fun a ha => by
    have h1 := mem_drop_ge hr x.1 ha
    obtain ⟨i, hi, rfl⟩ := List.getElem_of_mem ha
    rcases Nat.eq_zero_or_pos i with rfl | hp
    · have hlt : placeS l x.1 < l.length := by simp only [List.length_drop] at hi; omega
      unfold hitS at h
      rw [decide_eq_false_iff_not, List.getElem?_eq_getElem hlt] at h
      rw [List.getElem_drop] at h1 ⊢
      simp only [Nat.add_zero] at h1 ⊢
      have hn : (l[placeS l x.1]).1 ≠ x.1 := fun e => h (by simp [e])
      omega
    · have h0 := List.pairwise_iff_getElem.1 (rising_drop hr (placeS l x.1)) 0 i (by omega) hi hp
      have h2 := mem_drop_ge hr x.1 (List.getElem_mem (by omega : 0 < (l.drop (placeS l x.1)).length))
      omega
  rw [List.pairwise_append]
  refine ⟨hr.sublist (List.take_sublist _ l), List.pairwise_cons.2 ⟨hge, rising_drop hr _⟩, fun a ha b hb => ?_⟩
  have h1 := mem_take_lt hr x.1 ha
  rcases List.mem_cons.1 hb with rfl | hb
  · exact h1
  · have := hge b hb; omega
theorem rising_set {l : List Smp} (hr : risingS l) (x : Smp) (h : hitS l x = true) : risingS (l.set (placeS l x.1) x) := by
  have e : (l.set (placeS l x.1) x).map (·.1) = l.map (·.1) := by
    rw [List.map_set]
    unfold hitS at h
    rw [decide_eq_true_eq] at h
    refine List.ext_getElem? fun i => ?_
    rw [List.getElem?_set]
    split
    · rename_i hi
      rw [← hi, List.getElem?_map, h]
      split
      · rfl
      · rename_i hn
        rw [List.getElem?_eq_none (by simpa using hn)] at h
        simp at h
    · rfl
  have h1 : (l.map (·.1)).Pairwise (· < ·) := List.pairwise_map.2 hr
  rw [← e] at h1
  exact List.pairwise_map.1 h1
theorem rising_put {l : List Smp} (hr : risingS l) (room : Int) (x : Smp) : risingS (putS l room x) := by
  unfold putS
  cases h : hitS l x with
  | true => exact rising_set hr x h
  | false => exact rising_cut (rising_ins hr x h) room
theorem putS_len {l : List Smp} {room : Nat} (hl : l.length ≤ room) (x : Smp) : (putS l (room : Nat) x).length ≤ room := by
  unfold putS
  split
  · simpa using hl
  · unfold cutS
    have := insS_len l x
    split
    · simp; omega
    · omega

set_option maxRecDepth 100000 in
set_option maxHeartbeats 4000000 in
theorem nodePut_any (N : Nat) (x : Nd) (rs rh : Nat) (fp : List Nat) (s : Smp) (w : World) (h : NodeIn w N x rs rh fp) (hrs0 : 1 ≤ rs) (hrs : rs ≤ 256) (hrh : rh ≤ 64) (hv : x.ver ≤ 1000000) (hx1 : 0 ≤ s.1) (hx2 : 0 ≤ s.2) :
    Calls Tryz.prog 151 #[.pointer (some ⟨N, 0, none⟩), .int .i64 s.1, .int .i64 s.2] w (NdSays w { bump x with smp := putS x.smp (rs : Nat) s } rs rh (mfp x fp) (fun p => .tuple #[p, .int .i64 0])) := by
  have hs0 : serE s.1 s.2 = 0 := by unfold serE; rw [if_neg (by omega), if_neg (by omega)]
  have HS0 := Lib.hid hs0
  have HM := Lib.hid (made_any N x rs rh fp w h)
  have HN := Lib.hid h
  clear hs0 h
  go_enter Tryz.func151, Tryz.ntmps151
  go_wp2_with (first
    | (go_at_call 102; refine (seriesRight_any _ _ _).mono ?_; rw [HS0.out]; rintro e w1 ⟨rfl, rfl⟩)
    | (go_at_call 174; refine HM.out.mono ?_; rintro e w2 ⟨rfl, hb2⟩; have HB2 := Lib.hid hb2; clear hb2)
    | (go_at_call 207
       refine (own_any N x rs rh fp w2 (HN.out.below HB2.out) hrs hrh hv).mono ?_
       rintro e w3 ⟨N3, fp3, rfl, ⟨S, fs, H, fh, h1, h2, h3, h4, h5, h6, hfp, h7, h8⟩, hu3⟩
       have g1 := h1
       unfold ndC at g1
       obtain ⟨a1, a2, a3⟩ := box_cells (Below.refl _ _) g1
       have HU3 := Lib.hid ((Upd.of_below HB2.out _).trans hu3)
       have H1 := Lib.hid h1
       have H2 := Lib.hid h2
       have H3 := Lib.hid h3
       have H7 := Lib.hid h7
       have H8 := Lib.hid h8
       have HFP := Lib.hid hfp
       clear g1 h1 h2 h3 h7 h8 hu3 hfp)
    | (go_at_call 194
       refine (serPut_any S _ (rs : Nat) fs s w3 H2.out H7.out (by have := H8.out; omega) (by omega) hx1 hx2).mono ?_
       rintro e w4 ⟨fs', rfl, hs4, hu4⟩
       have HL := Lib.hid (node_ser H1.out H3.out h4 h5 h6 hs4 hu4 (rising_put H7.out _ _) (putS_len H8.out s))
       clear hs4 hu4))
  refine bodyPost_ret (v := .tuple #[.pointer (some ⟨N3, 0, none⟩), .int .i64 0]) (by simp [results, Tryz.results151, go_sem]) rfl ?_
  obtain ⟨l1, l2⟩ := HL.out
  refine ⟨N3, _, rfl, l1, ?_⟩
  have hu := HU3.out
  rw [HFP.out] at hu
  exact hu.trans l2
end

end Go.Proofs.YtmniiodpbebnmaaGreat
