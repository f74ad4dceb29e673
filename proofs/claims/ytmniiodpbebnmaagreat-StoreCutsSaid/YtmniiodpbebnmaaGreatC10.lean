/- ring.Ring and history.History over decisions, in memory: New, Len, kept, Clone; the ring's steps in plain Lean; A world behind a body is named; ring.Push while there is room; ring.Push where there is no room: the first one goes. History.Add; history.Add; node.Node in memory: made, New, own. -/
import Derived.Test.YtmniiodpbebnmaaGreatC09
import Derived.Test.YtmniiodpbebnmaaGreatC01
namespace Go.Proofs.YtmniiodpbebnmaaGreat

section
set_option linter.unusedSimpArgs false
set_option linter.unusedVariables false
open Go.RowKit Go.Lib Go.Sort

/-- A ring at block R whose list, its first one first, is l. -/
def RingIn (w : World) (R : Nat) (l : List Adv) (room : Nat) (fp : List Nat) : Prop :=
  ∃ v fr raw frm, w.heap[R]? = some (.cells #[v, .int .i64 (frm : Nat), .int .i64 (room : Nat)] 363 (0, 0)) ∧ SRow advC 44 5 w v raw fr ∧ R ∉ fr ∧ fp = R :: fr ∧
    l = raw.drop frm ++ raw.take frm ∧ raw.length ≤ room ∧ frm < room ∧ (raw.length < room → frm = 0)
theorem RingIn.kept {w w' : World} {S : Nat} {l : List Adv} {room : Nat} {fp : List Nat} (h : RingIn w S l room fp) (hb : ∀ r ∈ fp, w'.heap[r]? = w.heap[r]?) : RingIn w' S l room fp := by
  obtain ⟨v, fr, raw, frm, h1, h2, h3, rfl, h4⟩ := h
  exact ⟨v, fr, raw, frm, (hb S (List.mem_cons_self ..)).trans h1, h2.kept (fun r hr => hb r (List.mem_cons_of_mem _ hr)), h3, rfl, h4⟩
theorem RingIn.lt {w : World} {S : Nat} {l : List Adv} {room : Nat} {fp : List Nat} (h : RingIn w S l room fp) : ∀ r ∈ fp, r < w.heap.size := by
  obtain ⟨v, fr, raw, frm, h1, h2, h3, rfl, h4⟩ := h
  intro r hr
  rcases List.mem_cons.1 hr with rfl | hr
  · exact (Array.getElem?_eq_some_iff.1 h1).1
  · exact h2.lt r hr
theorem RingIn.below {w w' : World} {S : Nat} {l : List Adv} {room : Nat} {fp : List Nat} (h : RingIn w S l room fp) (hb : Below w.heap.size w w') : RingIn w' S l room fp := h.kept (fun r hr => hb.block r (h.lt r hr))
theorem RingIn.len {w : World} {S : Nat} {l : List Adv} {room : Nat} {fp : List Nat} (h : RingIn w S l room fp) : l.length ≤ room := by
  obtain ⟨v, fr, raw, frm, h1, h2, h3, rfl, rfl, h4, h5, h6⟩ := h
  simp; omega
/-- A history at block H. -/
def HistIn (w : World) (H : Nat) (l : List Adv) (room : Nat) (fp : List Nat) : Prop :=
  ∃ R fr, w.heap[H]? = some (.cells #[.pointer (some ⟨R, 0, none⟩)] 324 (0, 0)) ∧ RingIn w R l room fr ∧ H ∉ fr ∧ fp = H :: fr ∧ R ∈ fr
theorem HistIn.kept {w w' : World} {S : Nat} {l : List Adv} {room : Nat} {fp : List Nat} (h : HistIn w S l room fp) (hb : ∀ r ∈ fp, w'.heap[r]? = w.heap[r]?) : HistIn w' S l room fp := by
  obtain ⟨R, fr, h1, h2, h3, rfl, h5⟩ := h
  exact ⟨R, fr, (hb S (List.mem_cons_self ..)).trans h1, h2.kept (fun r hr => hb r (List.mem_cons_of_mem _ hr)), h3, rfl, h5⟩
theorem HistIn.lt {w : World} {S : Nat} {l : List Adv} {room : Nat} {fp : List Nat} (h : HistIn w S l room fp) : ∀ r ∈ fp, r < w.heap.size := by
  obtain ⟨R, fr, h1, h2, h3, rfl, h5⟩ := h
  intro r hr
  rcases List.mem_cons.1 hr with rfl | hr
  · exact (Array.getElem?_eq_some_iff.1 h1).1
  · exact h2.lt r hr
theorem HistIn.below {w w' : World} {S : Nat} {l : List Adv} {room : Nat} {fp : List Nat} (h : HistIn w S l room fp) (hb : Below w.heap.size w w') : HistIn w' S l room fp := h.kept (fun r hr => hb.block r (h.lt r hr))
theorem HistIn.len {w : World} {S : Nat} {l : List Adv} {room : Nat} {fp : List Nat} (h : HistIn w S l room fp) : l.length ≤ room := by
  obtain ⟨R, fr, h1, h2, h3, rfl, h5⟩ := h
  exact h2.len

def NewRing (w : World) (l : List Adv) (room : Nat) (e : Ending) (w' : World) : Prop :=
  ∃ S fp, e = .returned (.pointer (some ⟨S, 0, none⟩)) ∧ RingIn w' S l room fp ∧ S ∈ fp ∧ (∀ k ∈ fp, w.heap.size ≤ k) ∧ Below w.heap.size w w'
def NewHist (w : World) (l : List Adv) (room : Nat) (e : Ending) (w' : World) : Prop :=
  ∃ S fp, e = .returned (.pointer (some ⟨S, 0, none⟩)) ∧ HistIn w' S l room fp ∧ (∀ k ∈ fp, w.heap.size ≤ k) ∧ Below w.heap.size w w'

set_option maxRecDepth 100000 in
set_option maxHeartbeats 4000000 in
theorem ringNew_any (room : Nat) (w : World) (h1 : 1 ≤ room) (h2 : room ≤ 4096) :
    Calls Tryz.prog 259 #[.int .i64 room] w (NewRing w [] room) := by
  have q1 : ¬ (room : Int) < 1 := by omega
  have q2 : ¬ 4096 < (room : Int) := by omega
  go_enter Tryz.func259, Tryz.ntmps259
  go_wp2
  go_ret
  exact ⟨w.heap.size, [w.heap.size], rfl, ⟨.slice none 0 0, [], [], 0, heap_alloc_new _ _, SRow.nil _, by simp, rfl, rfl, by simp, by omega, fun _ => rfl⟩, by simp, fun k hk => by simp at hk; omega, balloc (Below.refl _ _) _⟩

theorem hist_of {w w1 : World} {R : Nat} {l : List Adv} {room : Nat} {fp : List Nat} (h : RingIn w1 R l room fp) (hR : R ∈ fp) (hf : ∀ k ∈ fp, w.heap.size ≤ k) (hb : Below w.heap.size w w1) :
    NewHist w l room (.returned (.pointer (some ⟨w1.heap.size, 0, none⟩))) (w1.alloc (.cells #[.pointer (some ⟨R, 0, none⟩)] 324)) :=
  ⟨w1.heap.size, w1.heap.size :: fp, rfl, ⟨R, fp, heap_alloc_new _ _, h.below (balloc (Below.refl _ _) _), fun hh => by have := h.lt _ hh; omega, rfl, hR⟩, fun k hk => by rcases List.mem_cons.1 hk with rfl | hk; exact hb.size; exact hf k hk, balloc hb _⟩

set_option maxRecDepth 100000 in
set_option maxHeartbeats 4000000 in
theorem histNew_any (room : Nat) (w : World) (h1 : 1 ≤ room) (h2 : room ≤ 64) :
    Calls Tryz.prog 211 #[.int .i64 room] w (NewHist w [] room) := by
  have q1 : ¬ (room : Int) < 1 := by omega
  have q2 : ¬ 64 < (room : Int) := by omega
  go_enter Tryz.func211, Tryz.ntmps211
  go_wp2_with (go_at_call 259; refine (ringNew_any room w h1 (by omega)).mono ?_; rintro e w2 ⟨S, fp, rfl, hr, hS, hf, hb⟩; have HH := Lib.hid (hist_of hr hS hf hb); clear hr hS hf hb)
  go_ret
  exact HH.out

set_option maxRecDepth 100000 in
set_option maxHeartbeats 4000000 in
theorem ringLen_any (R : Nat) (l : List Adv) (room : Nat) (fp : List Nat) (w : World) (h : RingIn w R l room fp) :
    Calls Tryz.prog 271 #[.pointer (some ⟨R, 0, none⟩)] w fun e w' => e = .returned (.int .i64 l.length) ∧ Below w.heap.size w w' := by
  obtain ⟨v, fr, raw, frm, h1, h2, h3, rfl, rfl, h4, h5, h6⟩ := h
  obtain ⟨A, c, rfl⟩ := h2.form
  have z0 : w.cell? ⟨R, 0, none⟩ = some (.slice A raw.length c) := by simp only [World.cell?, h1]; rfl
  have el : (raw.drop frm ++ raw.take frm).length = raw.length := by simp; omega
  rw [el]
  clear h1 h2 h3 h4 h5 h6 el
  go_enter Tryz.func271, Tryz.ntmps271
  go_wp2
  go_ret
  exact ⟨rfl, Below.refl _ _⟩

set_option maxRecDepth 100000 in
set_option maxHeartbeats 4000000 in
theorem kept_any (H R : Nat) (w : World) (h : w.heap[H]? = some (.cells #[.pointer (some ⟨R, 0, none⟩)] 324 (0, 0))) :
    Calls Tryz.prog 219 #[.pointer (some ⟨H, 0, none⟩)] w fun e w' => e = .returned (.pointer (some ⟨R, 0, none⟩)) ∧ Below w.heap.size w w' := by
  have z0 : w.cell? ⟨H, 0, none⟩ = some (.pointer (some ⟨R, 0, none⟩)) := by simp only [World.cell?, h]; rfl
  clear h
  go_enter Tryz.func219, Tryz.ntmps219
  go_wp2
  go_ret
  exact ⟨rfl, Below.refl _ _⟩

set_option maxRecDepth 100000 in
set_option maxHeartbeats 4000000 in
theorem ringClone_any (R : Nat) (l : List Adv) (room : Nat) (fp : List Nat) (w : World) (h : RingIn w R l room fp) (hroom : room ≤ 4096) :
    Calls Tryz.prog 294 #[.pointer (some ⟨R, 0, none⟩)] w (NewRing w l room) := by
  obtain ⟨v, fr, raw, frm, hS, h2, h3, rfl, rfl, h4, h5, h6⟩ := h
  have hSlt := (Array.getElem?_eq_some_iff.1 hS).1
  have hR := Lib.hid (h2.row eAdv)
  have HV := Lib.hid (show SRow advC 44 5 w v raw fr from h2)
  have z0 : w.cell? ⟨R, 0, none⟩ = some v := by simp only [World.cell?, hS]; rfl
  have z1 : w.cell? ⟨R, 1, none⟩ = some (.int .i64 (frm : Nat)) := by simp only [World.cell?, hS]; rfl
  have z2 : w.cell? ⟨R, 2, none⟩ = some (.int .i64 (room : Nat)) := by simp only [World.cell?, hS]; rfl
  have H6 := Lib.hid h6
  clear hS h2 h6
  go_enter Tryz.func294, Tryz.ntmps294
  go_wp2_with fail
  go_region_with ((
    go_at_call 137
    refine calls_named ?_
    intro W4 hW4
    have hb4 : Below w.heap.size w W4 := by rw [hW4]; repeat (first | exact Below.refl _ _ | refine balloc ?_ _ | refine Below.drew ?_)
    clear hW4
    refine (cloneA_any v raw W4 ((HV.out.below hb4).row eAdv) (by omega)).mono ?_
    rintro e w2 ⟨A, c, fp2, rfl, h1, h2, h3⟩
    have hb2 : Below w.heap.size w w2 := bthen hb4 h3
    have z1' := (hb2.cell (p := ⟨R, 1, none⟩) hSlt).trans z1
    have z2' := (hb2.cell (p := ⟨R, 2, none⟩) hSlt).trans z2
    have hS2 : R < w2.heap.size := by have := hb2.size; omega
    have h2' : ∀ k ∈ fp2, w.heap.size ≤ k := fun k hk => by have := h2 k hk; have := hb4.size; omega
    have H1 := Lib.hid h1
    have H2 := Lib.hid h2'
    have H3 := Lib.hid hb2
    clear h1 h2 h3 hb2 h2' hb4))
  all_goals go_wp2
  all_goals go_ret
  all_goals exact ⟨w2.heap.size, w2.heap.size :: fp2, rfl, ⟨.slice A raw.length c, fp2, raw, frm, heap_alloc_new _ _, H1.out.below (balloc (Below.refl _ _) _), fun h => by have := H1.out.lt _ h; omega, rfl, rfl, h4, h5, H6.out⟩, List.mem_cons_self .., fun k hk => by rcases List.mem_cons.1 hk with rfl | hk; exact H3.out.size; exact H2.out k hk, balloc H3.out _⟩

set_option maxRecDepth 100000 in
set_option maxHeartbeats 4000000 in
theorem histClone_any (H : Nat) (l : List Adv) (room : Nat) (fp : List Nat) (w : World) (h : HistIn w H l room fp) (hroom : room ≤ 4096) :
    Calls Tryz.prog 256 #[.pointer (some ⟨H, 0, none⟩)] w (NewHist w l room) := by
  obtain ⟨R, fr, hS, hR, h3, rfl, hRm⟩ := h
  have HR := Lib.hid hR
  have z0 : w.cell? ⟨H, 0, none⟩ = some (.pointer (some ⟨R, 0, none⟩)) := by simp only [World.cell?, hS]; rfl
  clear hS hR
  go_enter Tryz.func256, Tryz.ntmps256
  go_wp2_with (go_at_call 294; refine (ringClone_any R l room fr w HR.out hroom).mono ?_; rintro e w2 ⟨S, fp, rfl, hr, hS, hf, hb⟩; have HH := Lib.hid (hist_of hr hS hf hb); clear hr hS hf hb)
  go_ret
  exact HH.out
end

section
set_option linter.unusedSimpArgs false
set_option linter.unusedVariables false
theorem post_named {P : Program} {f : Func} {Q : Ending → World → Prop} {e : Exit} {a : Act} {w : World} (h : ∀ W, W = w → bodyPost P f Q e a W) : bodyPost P f Q e a w := h w rfl
/-- The world behind a region is named. -/
theorem then_named {K : Act → World → Prop} {Q : Exit → Act → World → Prop} {a : Act} {w : World} (h : ∀ W, W = w → Exit.then K Q Exit.normal a W) : Exit.then K Q Exit.normal a w := h w rfl
end

section
set_option linter.unusedSimpArgs false
set_option linter.unusedVariables false
open Go.RowKit Go.Lib Go.Sort

def pushL (l : List Adv) (room : Nat) (x : Adv) : List Adv := (if l.length < room then l else l.drop 1) ++ [x]
def PushS (w : World) (R : Nat) (l : List Adv) (room : Nat) (fp : List Nat) (e : Ending) (w' : World) : Prop :=
  ∃ u fp', e = .returned u ∧ RingIn w' R l room fp' ∧ R ∈ fp' ∧ Upd w w' fp fp'
/-- The same, in one world: what stands in blocks of the call's own may turn yet. -/
def RAt (w w' : World) (B R : Nat) (l : List Adv) (room : Nat) (fp : List Nat) : Prop :=
  ∃ fp', RingIn w' R l room fp' ∧ R ∈ fp' ∧ Upd w w' fp fp' ∧ (∀ k ∈ fp', k < w.heap.size ∨ B ≤ k)
theorem RAt.set {w w' : World} {B R : Nat} {l : List Adv} {room : Nat} {fp : List Nat} (h : RAt w w' B R l room fp) {b i : Nat} {v : Value} (h1 : w.heap.size ≤ b) (h2 : b < B) : RAt w (w'.setCell ⟨b, i, none⟩ v) B R l room fp := by
  obtain ⟨fp', a1, a2, a3, a4⟩ := h
  have hne : ∀ k ∈ fp', k ≠ b := fun k hk => by have := a4 k hk; omega
  refine ⟨fp', a1.kept (fun r hr => Below.heap_setCell _ _ _ _ (hne r hr)), a2, ?_, a4⟩
  exact ⟨a3.os, a3.tape, a3.output, by simp [World.setCell]; exact a3.size, fun k hk hn => (Below.heap_setCell _ _ _ _ (fun e => by have e' : k = b := e; omega)).trans (a3.block k hk hn), a3.fresh⟩
theorem RAt.below {w w' W : World} {B R : Nat} {l : List Adv} {room : Nat} {fp : List Nat} (h : RAt w w' B R l room fp) (hb : Below w'.heap.size w' W) : RAt w W B R l room fp := by
  obtain ⟨fp', a1, a2, a3, a4⟩ := h
  exact ⟨fp', a1.below hb, a2, a3.trans (Upd.of_below hb _), a4⟩
theorem RAt.says {w w' : World} {B R : Nat} {l : List Adv} {room : Nat} {fp : List Nat} (h : RAt w w' B R l room fp) (u : Value) : PushS w R l room fp (.returned u) w' := by
  obtain ⟨fp', a1, a2, a3, _⟩ := h
  exact ⟨u, fp', rfl, a1, a2, a3⟩
end

section
set_option linter.unusedSimpArgs false
set_option linter.unusedVariables false
open Go.RowKit Go.Lib Go.Sort

theorem box5 {w : World} {B : Nat} {cs : Array Value} {v0 v1 v2 v3 v4 : Value} {T : TypeId} (h : w.heap[B]? = some (.cells #[.int .i64 0, .int .i64 0, .int .i64 0, .int .i64 0, .int .i64 0] T (0, 0))) :
    (((((w.setCell ⟨B, 0, none⟩ v0).setCell ⟨B, 1, none⟩ v1).setCell ⟨B, 2, none⟩ v2).setCell ⟨B, 3, none⟩ v3).setCell ⟨B, 4, none⟩ v4).heap[B]? = some (.cells #[v0, v1, v2, v3, v4] T (0, 0)) :=
  setCell_block (setCell_block (setCell_block (setCell_block (setCell_block h))))
theorem below5 {w a : World} {B : Nat} (h : Below w.heap.size w a) (hB : w.heap.size ≤ B) (v0 v1 v2 v3 v4 : Value) : Below w.heap.size w (((((a.setCell ⟨B, 0, none⟩ v0).setCell ⟨B, 1, none⟩ v1).setCell ⟨B, 2, none⟩ v2).setCell ⟨B, 3, none⟩ v3).setCell ⟨B, 4, none⟩ v4) :=
  (below4 h hB v0 v1 v2 v3).setCell hB _
end

section
set_option linter.unusedSimpArgs false
set_option linter.unusedVariables false
open Go.RowKit Go.Lib Go.Sort
end

section
set_option linter.unusedSimpArgs false
set_option linter.unusedVariables false
open Go.RowKit Go.Lib Go.Sort

/-- A workload. -/
structure Nd where
  pol : Pol
  ruled : Bool
  ver : Nat
  smp : List Smp
  past : List Adv
  frz : Bool
def pol0 : Pol := ⟨0, 0, 0, 0, 0, 0⟩
def nd0 : Nd := ⟨pol0, false, 0, [], [], false⟩
def ndC (x : Nd) (S H : Nat) : Array Value := #[.int .i64 x.pol.mn, .int .i64 x.pol.mx, .int .i64 x.pol.tg, .int .i64 x.pol.tol, .int .i64 x.pol.win, .int .i64 x.pol.hold, .bool x.ruled, .int .i64 (x.ver : Nat), .pointer (some ⟨S, 0, none⟩), .pointer (some ⟨H, 0, none⟩), .bool x.frz]
def NodeIn (w : World) (N : Nat) (x : Nd) (rs rh : Nat) (fp : List Nat) : Prop :=
  ∃ S fs H fh, w.heap[N]? = some (.cells (ndC x S H) 258 (0, 0)) ∧ SerIn w S x.smp (rs : Nat) fs ∧ HistIn w H x.past rh fh ∧ N ∉ fs ∧ N ∉ fh ∧ (∀ k ∈ fs, k ∉ fh) ∧ fp = N :: (fs ++ fh) ∧ risingS x.smp ∧ x.smp.length ≤ rs
theorem NodeIn.kept {w w' : World} {N : Nat} {x : Nd} {rs rh : Nat} {fp : List Nat} (h : NodeIn w N x rs rh fp) (hb : ∀ r ∈ fp, w'.heap[r]? = w.heap[r]?) : NodeIn w' N x rs rh fp := by
  obtain ⟨S, fs, H, fh, h1, h2, h3, h4, h5, h6, rfl, h7⟩ := h
  exact ⟨S, fs, H, fh, (hb N (List.mem_cons_self ..)).trans h1, h2.kept (fun r hr => hb r (List.mem_cons_of_mem _ (List.mem_append_left _ hr))), h3.kept (fun r hr => hb r (List.mem_cons_of_mem _ (List.mem_append_right _ hr))), h4, h5, h6, rfl, h7⟩
theorem NodeIn.lt {w : World} {N : Nat} {x : Nd} {rs rh : Nat} {fp : List Nat} (h : NodeIn w N x rs rh fp) : ∀ r ∈ fp, r < w.heap.size := by
  obtain ⟨S, fs, H, fh, h1, h2, h3, h4, h5, h6, rfl, h7⟩ := h
  intro r hr
  rcases List.mem_cons.1 hr with rfl | hr
  · exact (Array.getElem?_eq_some_iff.1 h1).1
  · exact (List.mem_append.1 hr).elim (h2.lt r) (h3.lt r)
theorem NodeIn.below {w w' : World} {N : Nat} {x : Nd} {rs rh : Nat} {fp : List Nat} (h : NodeIn w N x rs rh fp) (hb : Below w.heap.size w w') : NodeIn w' N x rs rh fp := h.kept (fun r hr => hb.block r (h.lt r hr))
theorem NodeIn.mem {w : World} {N : Nat} {x : Nd} {rs rh : Nat} {fp : List Nat} (h : NodeIn w N x rs rh fp) : N ∈ fp := by
  obtain ⟨S, fs, H, fh, h1, h2, h3, h4, h5, h6, rfl, h7⟩ := h
  exact List.mem_cons_self ..
def NewNode (w : World) (x : Nd) (rs rh : Nat) (e : Ending) (w' : World) : Prop :=
  ∃ N fp, e = .returned (.pointer (some ⟨N, 0, none⟩)) ∧ NodeIn w' N x rs rh fp ∧ (∀ k ∈ fp, w.heap.size ≤ k) ∧ Below w.heap.size w w'
/-- What of a node may turn. -/
def mfp (x : Nd) (fp : List Nat) : List Nat := if x.frz = true then [] else fp

theorem node_new {w w9 : World} {S H : Nat} {fs fh : List Nat} {x : Nd} {rs rh : Nat} (hS : SerIn w9 S x.smp (rs : Nat) fs) (hH : HistIn w9 H x.past rh fh) (hd : ∀ k ∈ fs, k ∉ fh) (h1 : ∀ k ∈ fs, w.heap.size ≤ k) (h2 : ∀ k ∈ fh, w.heap.size ≤ k) (hb : Below w.heap.size w w9) (hr : risingS x.smp) (hl : x.smp.length ≤ rs) :
    NewNode w x rs rh (.returned (.pointer (some ⟨w9.heap.size, 0, none⟩))) (w9.alloc (.cells (ndC x S H) 258)) :=
  ⟨w9.heap.size, w9.heap.size :: (fs ++ fh), rfl, ⟨S, fs, H, fh, heap_alloc_new _ _, hS.below (balloc (Below.refl _ _) _), hH.below (balloc (Below.refl _ _) _), fun h => by have := hS.lt _ h; omega, fun h => by have := hH.lt _ h; omega, hd, rfl, hr, hl⟩,
    fun k hk => by
      rcases List.mem_cons.1 hk with rfl | hk
      · exact hb.size
      · exact (List.mem_append.1 hk).elim (h1 k) (h2 k), balloc hb _⟩

theorem node_set {w : World} {N : Nat} {x y : Nd} {rs rh : Nat} {fp : List Nat} {i : Nat} {v : Value} (h : NodeIn w N x rs rh fp) (e : ∀ S H, (ndC x S H).setIfInBounds i v = ndC y S H) (es : y.smp = x.smp) (ep : y.past = x.past) : NodeIn (w.setCell ⟨N, i, none⟩ v) N y rs rh fp := by
  obtain ⟨S, fs, H, fh, h1, h2, h3, h4, h5, h6, rfl, h7, h8⟩ := h
  exact ⟨S, fs, H, fh, (setCell_block h1).trans (by rw [e]), by rw [es]; exact h2.kept (fun r hr => Below.heap_setCell _ _ _ _ (fun e => h4 (by have e' : r = N := e; rw [← e']; exact hr))), by rw [ep]; exact h3.kept (fun r hr => Below.heap_setCell _ _ _ _ (fun e => h5 (by have e' : r = N := e; rw [← e']; exact hr))), h4, h5, h6, rfl, by rw [es]; exact h7, by rw [es]; exact h8⟩
def bump (x : Nd) : Nd := { x with ver := x.ver + 1, frz := false }
def OwnS (w : World) (x : Nd) (rs rh : Nat) (fp : List Nat) (e : Ending) (w' : World) : Prop :=
  ∃ N fp', e = .returned (.pointer (some ⟨N, 0, none⟩)) ∧ NodeIn w' N (bump x) rs rh fp' ∧ Upd w w' (mfp x fp) fp'

theorem own_new {w w9 : World} {S H : Nat} {fs fh fp : List Nat} {x : Nd} {rs rh : Nat} (hS : SerIn w9 S x.smp (rs : Nat) fs) (hH : HistIn w9 H x.past rh fh) (hd : ∀ k ∈ fs, k ∉ fh) (h1 : ∀ k ∈ fs, w.heap.size ≤ k) (h2 : ∀ k ∈ fh, w.heap.size ≤ k) (hb : Below w.heap.size w w9) (hr : risingS x.smp) (hl : x.smp.length ≤ rs) (hf : x.frz = true) :
    OwnS w x rs rh fp (.returned (.pointer (some ⟨w9.heap.size, 0, none⟩))) (w9.alloc (.cells (ndC (bump x) S H) 258)) := by
  obtain ⟨N, fp', e, hn, hf', hb'⟩ := node_new (x := bump x) hS hH hd h1 h2 hb hr hl
  refine ⟨N, fp', e, hn, ?_⟩
  unfold mfp
  rw [hf, if_pos rfl]
  exact ⟨hb'.os, hb'.tape, hb'.output, hb'.size, fun k hk _ => hb'.block k hk, fun k hk => .inr (hf' k hk)⟩

set_option maxRecDepth 100000 in
set_option maxHeartbeats 4000000 in
theorem made_any (N : Nat) (x : Nd) (rs rh : Nat) (fp : List Nat) (w : World) (h : NodeIn w N x rs rh fp) :
    Calls Tryz.prog 174 #[.pointer (some ⟨N, 0, none⟩)] w fun e w' => e = .returned (.bool true) ∧ Below w.heap.size w w' := by
  obtain ⟨S, fs, H, fh, h1, h2, h3, h4, h5, h6, rfl, h7⟩ := h
  have z0 : w.cell? ⟨N, 8, none⟩ = some (.pointer (some ⟨S, 0, none⟩)) := by simp only [World.cell?, h1]; rfl
  clear h1 h2 h3 h4 h5 h6 h7
  go_enter Tryz.func174, Tryz.ntmps174
  go_wp2
  go_ret
  exact ⟨rfl, Below.refl _ _⟩

set_option maxRecDepth 100000 in
set_option maxHeartbeats 4000000 in
theorem nodeNew_any (c : Cfg) (rs rh : Nat) (w : World) (hc : cfgB c = true) (hrs : c.sa = (rs : Nat)) (hrh : c.hi = (rh : Nat)) (hok : c.ok) :
    Calls Tryz.prog 156 #[cfgV c] w (NewNode w nd0 rs rh) := by
  have hb : 1 ≤ rs ∧ rs ≤ 256 ∧ 1 ≤ rh ∧ rh ≤ 64 := by
    unfold cfgB at hc
    simp only [Bool.and_eq_true, decide_eq_true_eq] at hc
    omega
  have hE : cfgE c = 0 := by unfold cfgE; rw [if_pos hc]
  have HE := Lib.hid hE
  obtain ⟨st, sa, lo, hi⟩ := c
  dsimp only at hrs hrh
  subst hrs hrh
  have HNR := Lib.hid (nodeRight_any ⟨st, (rs : Nat), lo, (rh : Nat)⟩)
  clear hc hE
  unfold cfgV
  go_enter Tryz.func156, Tryz.ntmps156
  go_wp2_with (go_at_call 46
               refine calls_named ?_
               intro W1 hW1
               have hb1 : Below w.heap.size w W1 := by rw [hW1]; exact balloc (Below.refl _ _) _
               have hx1 : W1.heap[w.heap.size]? = some (.cells #[.int .i64 st, .int .i64 (rs : Nat), .int .i64 lo, .int .i64 (rh : Nat)] 23 (0, 0)) := by rw [hW1]; exact heap_alloc_new _ _
               clear hW1
               refine (HNR.out W1 hok).mono ?_
               rw [HE.out]
               rintro e w2 ⟨rfl, hb2⟩
               obtain ⟨a1, a2, a3⟩ := box_cells hb2 hx1
               have HX := Lib.hid ((hb2.block w.heap.size (Array.getElem?_eq_some_iff.1 hx1).1).trans hx1)
               have HBX := Lib.hid (bthen hb1 hb2)
               clear hb1 hx1 hb2)
  go_region_with ((first
      | (go_at_call 211
         refine calls_named ?_
         intro W4 hW4
         have hbo : Below ws.heap.size ws W4 := by rw [hW4]; repeat (first | exact Below.refl _ _ | refine balloc ?_ _ | refine Below.drew ?_)
         have hb4 : Below w2.heap.size w2 W4 := bthen HB1.out hbo
         clear hW4
         refine (histNew_any rh W4 hb.2.2.1 (by omega)).mono ?_
         rintro e wh ⟨H, fh, rfl, h1, h2, h3⟩
         have hbn : Below w2.heap.size w2 wh := bthen hb4 h3
         have h2' : ∀ k ∈ fh, w2.heap.size ≤ k := fun k hk => by have := h2 k hk; have := hb4.size; omega
         obtain ⟨a4, a5, a6⟩ := box_cells hbn HX.out
         have HS9 := Lib.hid (HSE.out.below (bthen hbo h3))
         have HH9 := Lib.hid (h1)
         have HD9 := Lib.hid (show ∀ k ∈ fs, k ∉ fh from fun k hk hk' => by have := h2 k hk'; have := HSE.out.lt k hk; have := hbo.size; omega)
         have HF9 := Lib.hid (And.intro (show ∀ k ∈ fs, w2.heap.size ≤ k from HSF.out) (show ∀ k ∈ fh, w2.heap.size ≤ k from h2'))
         have HB9 := Lib.hid hbn
         clear h1 h2 h2' h3 hb4 hbn hbo)
      | (go_at_call 193
         refine calls_named ?_
         intro W4 hW4
         have hbo : Below wh.heap.size wh W4 := by rw [hW4]; repeat (first | exact Below.refl _ _ | refine balloc ?_ _ | refine Below.drew ?_)
         have hb4 : Below w2.heap.size w2 W4 := bthen HB1.out hbo
         clear hW4
         refine (serNew_any (rs : Nat) W4 (by omega) (by omega)).mono ?_
         rintro e ws ⟨S, fs, rfl, h1, h2, h3⟩
         have hbn : Below w2.heap.size w2 ws := bthen hb4 h3
         have h2' : ∀ k ∈ fs, w2.heap.size ≤ k := fun k hk => by have := h2 k hk; have := hb4.size; omega
         obtain ⟨a4, a5, a6⟩ := box_cells hbn HX.out
         have HS9 := Lib.hid (h1)
         have HH9 := Lib.hid (HHI.out.below (bthen hbo h3))
         have HD9 := Lib.hid (show ∀ k ∈ fs, k ∉ fh from fun k hk hk' => by have := h2 k hk; have := HHI.out.lt k hk'; have := hbo.size; omega)
         have HF9 := Lib.hid (And.intro (show ∀ k ∈ fs, w2.heap.size ≤ k from h2') (show ∀ k ∈ fh, w2.heap.size ≤ k from HHF.out))
         have HB9 := Lib.hid hbn
         clear h1 h2 h2' h3 hb4 hbn hbo)
      | (go_at_call 193
         refine calls_named ?_
         intro W4 hW4
         have hb4 : Below w2.heap.size w2 W4 := by rw [hW4]; repeat (first | exact Below.refl _ _ | refine balloc ?_ _ | refine Below.drew ?_)
         clear hW4
         refine (serNew_any (rs : Nat) W4 (by omega) (by omega)).mono ?_
         rintro e ws ⟨S, fs, rfl, h1, h2, h3⟩
         have hbn : Below w2.heap.size w2 ws := bthen hb4 h3
         have h2' : ∀ k ∈ fs, w2.heap.size ≤ k := fun k hk => by have := h2 k hk; have := hb4.size; omega
         obtain ⟨a4, a5, a6⟩ := box_cells hbn HX.out
         have HSE := Lib.hid h1
         have HSF := Lib.hid h2'
         have HB1 := Lib.hid hbn
         clear h1 h2 h2' h3 hb4 hbn)
      | (go_at_call 211
         refine calls_named ?_
         intro W4 hW4
         have hb4 : Below w2.heap.size w2 W4 := by rw [hW4]; repeat (first | exact Below.refl _ _ | refine balloc ?_ _ | refine Below.drew ?_)
         clear hW4
         refine (histNew_any rh W4 hb.2.2.1 (by omega)).mono ?_
         rintro e wh ⟨H, fh, rfl, h1, h2, h3⟩
         have hbn : Below w2.heap.size w2 wh := bthen hb4 h3
         have h2' : ∀ k ∈ fh, w2.heap.size ≤ k := fun k hk => by have := h2 k hk; have := hb4.size; omega
         obtain ⟨a4, a5, a6⟩ := box_cells hbn HX.out
         have HHI := Lib.hid h1
         have HHF := Lib.hid h2'
         have HB1 := Lib.hid hbn
         clear h1 h2 h2' h3 hb4 hbn)))
  all_goals go_wp2
  all_goals go_ret
  all_goals exact node_new (x := nd0) HS9.out HH9.out HD9.out (fun k hk => Nat.le_trans HBX.out.size (HF9.out.1 k hk)) (fun k hk => Nat.le_trans HBX.out.size (HF9.out.2 k hk)) (bthen HBX.out HB9.out) List.Pairwise.nil (Nat.zero_le _)

set_option maxRecDepth 100000 in
set_option maxHeartbeats 4000000 in
theorem own_any (N : Nat) (x : Nd) (rs rh : Nat) (fp : List Nat) (w : World) (h : NodeIn w N x rs rh fp) (hrs : rs ≤ 256) (hrh : rh ≤ 64) (hv : x.ver ≤ 1000000) :
    Calls Tryz.prog 207 #[.pointer (some ⟨N, 0, none⟩)] w (OwnS w x rs rh fp) := by
  have HN := Lib.hid h
  have hw : IntKind.i64.wrap ((x.ver : Int) + 1) = ((x.ver + 1 : Nat) : Int) := by rw [IntKind.wrap_i64]; omega
  obtain ⟨S0, f0, H0, g0, h1, h2, h3, h4, h5, h6, hfp, h7, h8⟩ := h
  have hlt := (Array.getElem?_eq_some_iff.1 h1).1
  unfold ndC at h1
  obtain ⟨z1, z2, z3⟩ := box_cells (Below.refl _ _) h1
  have HX := Lib.hid h1
  have HSE0 := Lib.hid h2
  have HHI0 := Lib.hid h3
  have H7 := Lib.hid h7
  have hln : x.smp.length ≤ 1000000 := by omega
  clear h1 h2 h3 h7
  cases hf : x.frz with
  | false =>
    rw [hf] at z1
    have HF := Lib.hid hf
    clear hf
    go_enter Tryz.func207, Tryz.ntmps207
    go_wp2
    go_ret
    refine ⟨N, fp, rfl, node_set (x := x) (y := bump x) HN.out (fun S H => ?_) rfl rfl, ?_⟩
    · unfold ndC bump; rw [HF.out]; simp
    · unfold mfp; rw [HF.out, if_neg (by decide)]; exact Upd.set N 7 _ fp HN.out.mem
  | true =>
    rw [hf] at z1
    have HF := Lib.hid hf
    clear hf
    go_enter Tryz.func207, Tryz.ntmps207
    go_wp2_with fail
    go_region_with ((first
      | (go_at_call 256
         refine calls_named ?_
         intro W4 hW4
         have hbo : Below ws.heap.size ws W4 := by rw [hW4]; repeat (first | exact Below.refl _ _ | refine balloc ?_ _ | refine Below.drew ?_)
         have hb4 : Below w.heap.size w W4 := bthen HB1.out hbo
         clear hW4
         refine (histClone_any H0 x.past rh g0 W4 (HHI0.out.below hb4) (by omega)).mono ?_
         rintro e wh ⟨H, fh, rfl, h1, h2, h3⟩
         have hbn : Below w.heap.size w wh := bthen hb4 h3
         have h2' : ∀ k ∈ fh, w.heap.size ≤ k := fun k hk => by have := h2 k hk; have := hb4.size; omega
         obtain ⟨a4, a5, a6⟩ := box_cells hbn HX.out
         try rw [HF.out] at a4
         have HS9 := Lib.hid (HSE.out.below (bthen hbo h3))
         have HH9 := Lib.hid (h1)
         have HD9 := Lib.hid (show ∀ k ∈ fs, k ∉ fh from fun k hk hk' => by have := h2 k hk'; have := HSE.out.lt k hk; have := hbo.size; omega)
         have HF9 := Lib.hid (And.intro (show ∀ k ∈ fs, w.heap.size ≤ k from HSF.out) (show ∀ k ∈ fh, w.heap.size ≤ k from h2'))
         have HB9 := Lib.hid hbn
         clear h1 h2 h2' h3 hb4 hbn hbo)
      | (go_at_call 255
         refine calls_named ?_
         intro W4 hW4
         have hbo : Below wh.heap.size wh W4 := by rw [hW4]; repeat (first | exact Below.refl _ _ | refine balloc ?_ _ | refine Below.drew ?_)
         have hb4 : Below w.heap.size w W4 := bthen HB1.out hbo
         clear hW4
         refine (serClone_any S0 x.smp (rs : Nat) f0 W4 (HSE0.out.below hb4) hln).mono ?_
         rintro e ws ⟨S, fs, rfl, h1, h2, h3⟩
         have hbn : Below w.heap.size w ws := bthen hb4 h3
         have h2' : ∀ k ∈ fs, w.heap.size ≤ k := fun k hk => by have := h2 k hk; have := hb4.size; omega
         obtain ⟨a4, a5, a6⟩ := box_cells hbn HX.out
         try rw [HF.out] at a4
         have HS9 := Lib.hid (h1)
         have HH9 := Lib.hid (HHI.out.below (bthen hbo h3))
         have HD9 := Lib.hid (show ∀ k ∈ fs, k ∉ fh from fun k hk hk' => by have := h2 k hk; have := HHI.out.lt k hk'; have := hbo.size; omega)
         have HF9 := Lib.hid (And.intro (show ∀ k ∈ fs, w.heap.size ≤ k from h2') (show ∀ k ∈ fh, w.heap.size ≤ k from HHF.out))
         have HB9 := Lib.hid hbn
         clear h1 h2 h2' h3 hb4 hbn hbo)
      | (go_at_call 255
         refine calls_named ?_
         intro W4 hW4
         have hb4 : Below w.heap.size w W4 := by rw [hW4]; repeat (first | exact Below.refl _ _ | refine balloc ?_ _ | refine Below.drew ?_)
         clear hW4
         refine (serClone_any S0 x.smp (rs : Nat) f0 W4 (HSE0.out.below hb4) hln).mono ?_
         rintro e ws ⟨S, fs, rfl, h1, h2, h3⟩
         have hbn : Below w.heap.size w ws := bthen hb4 h3
         have h2' : ∀ k ∈ fs, w.heap.size ≤ k := fun k hk => by have := h2 k hk; have := hb4.size; omega
         obtain ⟨a4, a5, a6⟩ := box_cells hbn HX.out
         try rw [HF.out] at a4
         have HSE := Lib.hid h1
         have HSF := Lib.hid h2'
         have HB1 := Lib.hid hbn
         clear h1 h2 h2' h3 hb4 hbn)
      | (go_at_call 256
         refine calls_named ?_
         intro W4 hW4
         have hb4 : Below w.heap.size w W4 := by rw [hW4]; repeat (first | exact Below.refl _ _ | refine balloc ?_ _ | refine Below.drew ?_)
         clear hW4
         refine (histClone_any H0 x.past rh g0 W4 (HHI0.out.below hb4) (by omega)).mono ?_
         rintro e wh ⟨H, fh, rfl, h1, h2, h3⟩
         have hbn : Below w.heap.size w wh := bthen hb4 h3
         have h2' : ∀ k ∈ fh, w.heap.size ≤ k := fun k hk => by have := h2 k hk; have := hb4.size; omega
         obtain ⟨a4, a5, a6⟩ := box_cells hbn HX.out
         try rw [HF.out] at a4
         have HHI := Lib.hid h1
         have HHF := Lib.hid h2'
         have HB1 := Lib.hid hbn
         clear h1 h2 h2' h3 hb4 hbn)))
    all_goals go_wp2
    all_goals go_ret
    all_goals exact own_new HS9.out HH9.out HD9.out HF9.out.1 HF9.out.2 HB9.out H7.out h8 HF.out
end

end Go.Proofs.YtmniiodpbebnmaaGreat
