/- series.New, List, Clone, Trim; ring.Ring and history.History over decisions, in memory: New, Len, kept, Clone; the ring's steps in plain Lean; A world behind a body is named; ring.Push while there is room; ring.Push where there is no room: the first one goes. History.Add; history.Add. -/
import Derived.Test.YtmniiodpbebnmaaGreatJ10
import Derived.Test.YtmniiodpbebnmaaGreatJ01
namespace Go.Proofs.YtmniiodpbebnmaaGreat

section
set_option linter.unusedSimpArgs false
set_option linter.unusedVariables false
open Go.RowKit Go.Lib Go.Sort

/-- A new thing, its footprint all new. -/
def NewSer (w : World) (l : List Smp) (room : Int) (e : Ending) (w' : World) : Prop :=
  ∃ S fp, e = .returned (.pointer (some ⟨S, 0, none⟩)) ∧ SerIn w' S l room fp ∧ (∀ k ∈ fp, w.heap.size ≤ k) ∧ Below w.heap.size w w'

set_option maxRecDepth 100000 in
set_option maxHeartbeats 4000000 in
theorem serNew_any (room : Int) (w : World) (h1 : 1 ≤ room) (h2 : room ≤ 256) :
    Calls Tryz.prog 193 #[.int .i64 room] w (NewSer w [] room) := by
  have q1 : ¬ room < 1 := by omega
  have q2 : ¬ 256 < room := by omega
  go_enter Tryz.func193, Tryz.ntmps193
  go_wp2
  go_ret
  refine ⟨w.heap.size, [w.heap.size], rfl, ⟨.slice none 0 0, [], heap_alloc_new _ _, SRow.nil _, by simp, rfl⟩, fun k hk => by simp at hk; omega, balloc (Below.refl _ _) _⟩

set_option maxRecDepth 100000 in
set_option maxHeartbeats 4000000 in
theorem serList_any (S : Nat) (l : List Smp) (room : Int) (fp : List Nat) (w : World) (h : SerIn w S l room fp) (hl : l.length ≤ 1000000) :
    Calls Tryz.prog 128 #[.pointer (some ⟨S, 0, none⟩)] w (CloneS smpC 111 2 w l) := by
  obtain ⟨v, fr, hS, hrow, _, _⟩ := h
  have C := Lib.hid (cloneS_any v l w (hrow.row eSmp) hl)
  have z0 : w.cell? ⟨S, 0, none⟩ = some v := by simp only [World.cell?, hS]; rfl
  clear hS hrow
  go_enter Tryz.func128, Tryz.ntmps128
  go_wp2_with (go_at_call 127; refine C.out.mono ?_; rintro e w2 ⟨A, c, fp, rfl, h1, h2, h3⟩; have H1 := Lib.hid h1; have H2 := Lib.hid h2; have H3 := Lib.hid h3; clear h1 h2 h3)
  go_ret
  exact ⟨A, c, fp, rfl, H1.out, H2.out, H3.out⟩

set_option maxRecDepth 100000 in
set_option maxHeartbeats 4000000 in
theorem serClone_any (S : Nat) (l : List Smp) (room : Int) (fp : List Nat) (w : World) (h : SerIn w S l room fp) (hl : l.length ≤ 1000000) :
    Calls Tryz.prog 255 #[.pointer (some ⟨S, 0, none⟩)] w (NewSer w l room) := by
  have HS := Lib.hid h
  obtain ⟨v, fr, hS, hrow, _, _⟩ := h
  have hSlt := (Array.getElem?_eq_some_iff.1 hS).1
  have z1 : w.cell? ⟨S, 1, none⟩ = some (.int .i64 room) := by simp only [World.cell?, hS]; rfl
  clear hS hrow
  go_enter Tryz.func255, Tryz.ntmps255
  go_wp2_with fail
  go_region_with ((
    go_at_call 128
    refine calls_named ?_
    intro W4 hW4
    have hb4 : Below w.heap.size w W4 := by rw [hW4]; repeat (first | exact Below.refl _ _ | refine balloc ?_ _ | refine Below.drew ?_)
    clear hW4
    refine (serList_any S l room fp W4 (HS.out.below hb4) hl).mono ?_
    rintro e w2 ⟨A, c, fp2, rfl, h1, h2, h3⟩
    have hb2 : Below w.heap.size w w2 := bthen hb4 h3
    have z1' := (hb2.cell (p := ⟨S, 1, none⟩) hSlt).trans z1
    have hS2 : S < w2.heap.size := by have := hb2.size; omega
    have h2' : ∀ k ∈ fp2, w.heap.size ≤ k := fun k hk => by have := h2 k hk; have := hb4.size; omega
    have H1 := Lib.hid h1
    have H2 := Lib.hid h2'
    have H3 := Lib.hid hb2
    clear h1 h2 h3 hb2 h2' hb4))
  all_goals go_wp2
  all_goals go_ret
  all_goals exact ⟨w2.heap.size, w2.heap.size :: fp2, rfl, ⟨.slice A l.length c, fp2, heap_alloc_new _ _, H1.out.below (balloc (Below.refl _ _) _), fun h => by have := H1.out.lt _ h; omega, rfl⟩, fun k hk => by rcases List.mem_cons.1 hk with rfl | hk; exact H3.out.size; exact H2.out k hk, balloc H3.out _⟩

set_option maxRecDepth 100000 in
set_option maxHeartbeats 4000000 in
theorem serTrim_any (S : Nat) (l : List Smp) (room : Int) (fp : List Nat) (t : Int) (w : World) (h : SerIn w S l room fp) (hr : risingS l) (hl : l.length ≤ 1000000) :
    Calls Tryz.prog 210 #[.pointer (some ⟨S, 0, none⟩), .int .i64 t] w (SerSays w S (l.drop (placeS l t)) room fp (.int .i64 (placeS l t : Nat))) := by
  have HPL := Lib.hid (serPlace_any S l room fp t w h hr (by omega))
  have hpl := placeS_le l t
  generalize placeS l t = p at HPL hpl
  obtain ⟨v, fr, hS, ⟨hown, rfl⟩, hnS, rfl⟩ := h
  have hSlt := (Array.getElem?_eq_some_iff.1 hS).1
  have HO := Lib.hid hown
  have HS := Lib.hid hS
  have hnS' : v.ownBlock ≠ some S := fun e => hnS (by rw [e]; simp)
  have HN := Lib.hid hnS'
  have z0 : w.cell? ⟨S, 0, none⟩ = some v := by simp only [World.cell?, hS]; rfl
  clear hr hnS hown hS hnS'
  go_enter Tryz.func210, Tryz.ntmps210
  go_wp2_with (first
    | (go_at_call 232; refine HPL.out.mono ?_; rintro e w2 ⟨rfl, hb2⟩
       have z0' := (hb2.cell (p := ⟨S, 0, none⟩) hSlt).trans z0
       have hsz2 := hb2.size
       have hS2 : S < w2.heap.size := by omega
       have HB2 := Lib.hid hb2)
    | (go_at_call 234
       refine calls_named ?_
       intro W8 hW8
       have hb8 : Below w.heap.size w W8 := by rw [hW8]; exact HB2.out
       clear hW8
       have hS8 := (hb8.block S hSlt).trans HS.out
       refine (delete_any 0 _ l p W8 (HO.out.below hb8) (by omega) (by omega)).mono ?_
       rintro e w9 ⟨A9, c9, rfl, hown9, hg9, hblk9⟩
       have hS9 := (hg9.block S (Array.getElem?_eq_some_iff.1 hS8).1 (fun e => HN.out e.symm)).trans hS8
       obtain ⟨g1, g2, g3⟩ := box_cells (Below.refl _ _) hS9
       have HST9 := Lib.hid (ser_step hS8 HN.out hown9 hg9 hblk9)
       have HB8 := Lib.hid hb8
       clear hown9 hg9 hblk9 hS9 hS8 hb8))
  go_ret
  obtain ⟨h1, h2⟩ := HST9.out
  rw [List.length_drop] at h1 h2
  exact ⟨_, rfl, h1, (Upd.of_below HB8.out _).trans h2⟩
end

section
set_option linter.unusedSimpArgs false
set_option linter.unusedVariables false
open Go.RowKit Go.Lib Go.Sort

/-- A ring at block R whose list, its first one first, is l. -/
def RingIn (w : World) (R : Nat) (l : List Adv) (room : Nat) (fp : List Nat) : Prop :=
  ∃ v fr raw frm, w.heap[R]? = some (.cells #[v, .int .i64 (frm : Nat), .int .i64 (room : Nat)] 363 (0, 0)) ∧ SRow advC 44 5 w v raw fr ∧ R ∉ fr ∧ fp = R :: fr ∧
    l = raw.drop frm ++ raw.take frm ∧ raw.length ≤ room ∧ frm < room ∧ (raw.length < room → frm = 0)
theorem RingIn.kept {w w' : World} {S : Nat} {l : List Adv} {room : Nat} {fp : List Nat} (h : RingIn w S l room fp) (hb : ∀ r ∈ fp, w'.heap[r]? = w.heap[r]?) : RingIn w' S l room fp := by
  obtain ⟨v, fr, raw, frm, h1, h2, h3, rfl, h4⟩ := h
  exact ⟨v, fr, raw, frm, (hb S (List.mem_cons_self ..)).trans h1, h2.kept (fun r hr => hb r (List.mem_cons_of_mem _ hr)), h3, rfl, h4⟩
theorem RingIn.lt {w : World} {S : Nat} {l : List Adv} {room : Nat} {fp : List Nat} (h : RingIn w S l room fp) : ∀ r ∈ fp, r < w.heap.size := by
  obtain ⟨v, fr, raw, frm, h1, h2, h3, rfl, h4⟩ := h
  intro r hr
  rcases List.mem_cons.1 hr with rfl | hr
  · exact (Array.getElem?_eq_some_iff.1 h1).1
  · exact h2.lt r hr
theorem RingIn.below {w w' : World} {S : Nat} {l : List Adv} {room : Nat} {fp : List Nat} (h : RingIn w S l room fp) (hb : Below w.heap.size w w') : RingIn w' S l room fp := h.kept (fun r hr => hb.block r (h.lt r hr))
theorem RingIn.len {w : World} {S : Nat} {l : List Adv} {room : Nat} {fp : List Nat} (h : RingIn w S l room fp) : l.length ≤ room := by
  obtain ⟨v, fr, raw, frm, h1, h2, h3, rfl, rfl, h4, h5, h6⟩ := h
  simp; omega
/-- A history at block H. -/
def HistIn (w : World) (H : Nat) (l : List Adv) (room : Nat) (fp : List Nat) : Prop :=
  ∃ R fr, w.heap[H]? = some (.cells #[.pointer (some ⟨R, 0, none⟩)] 324 (0, 0)) ∧ RingIn w R l room fr ∧ H ∉ fr ∧ fp = H :: fr ∧ R ∈ fr
theorem HistIn.kept {w w' : World} {S : Nat} {l : List Adv} {room : Nat} {fp : List Nat} (h : HistIn w S l room fp) (hb : ∀ r ∈ fp, w'.heap[r]? = w.heap[r]?) : HistIn w' S l room fp := by
  obtain ⟨R, fr, h1, h2, h3, rfl, h5⟩ := h
  exact ⟨R, fr, (hb S (List.mem_cons_self ..)).trans h1, h2.kept (fun r hr => hb r (List.mem_cons_of_mem _ hr)), h3, rfl, h5⟩
theorem HistIn.lt {w : World} {S : Nat} {l : List Adv} {room : Nat} {fp : List Nat} (h : HistIn w S l room fp) : ∀ r ∈ fp, r < w.heap.size := by
  obtain ⟨R, fr, h1, h2, h3, rfl, h5⟩ := h
  intro r hr
  rcases List.mem_cons.1 hr with rfl | hr
  · exact (Array.getElem?_eq_some_iff.1 h1).1
  · exact h2.lt r hr
theorem HistIn.below {w w' : World} {S : Nat} {l : List Adv} {room : Nat} {fp : List Nat} (h : HistIn w S l room fp) (hb : Below w.heap.size w w') : HistIn w' S l room fp := h.kept (fun r hr => hb.block r (h.lt r hr))
theorem HistIn.len {w : World} {S : Nat} {l : List Adv} {room : Nat} {fp : List Nat} (h : HistIn w S l room fp) : l.length ≤ room := by
  obtain ⟨R, fr, h1, h2, h3, rfl, h5⟩ := h
  exact h2.len

def NewRing (w : World) (l : List Adv) (room : Nat) (e : Ending) (w' : World) : Prop :=
  ∃ S fp, e = .returned (.pointer (some ⟨S, 0, none⟩)) ∧ RingIn w' S l room fp ∧ S ∈ fp ∧ (∀ k ∈ fp, w.heap.size ≤ k) ∧ Below w.heap.size w w'
def NewHist (w : World) (l : List Adv) (room : Nat) (e : Ending) (w' : World) : Prop :=
  ∃ S fp, e = .returned (.pointer (some ⟨S, 0, none⟩)) ∧ HistIn w' S l room fp ∧ (∀ k ∈ fp, w.heap.size ≤ k) ∧ Below w.heap.size w w'

set_option maxRecDepth 100000 in
set_option maxHeartbeats 4000000 in
theorem ringNew_any (room : Nat) (w : World) (h1 : 1 ≤ room) (h2 : room ≤ 4096) :
    Calls Tryz.prog 259 #[.int .i64 room] w (NewRing w [] room) := by
  have q1 : ¬ (room : Int) < 1 := by omega
  have q2 : ¬ 4096 < (room : Int) := by omega
  go_enter Tryz.func259, Tryz.ntmps259
  go_wp2
  go_ret
  exact ⟨w.heap.size, [w.heap.size], rfl, ⟨.slice none 0 0, [], [], 0, heap_alloc_new _ _, SRow.nil _, by simp, rfl, rfl, by simp, by omega, fun _ => rfl⟩, by simp, fun k hk => by simp at hk; omega, balloc (Below.refl _ _) _⟩

theorem hist_of {w w1 : World} {R : Nat} {l : List Adv} {room : Nat} {fp : List Nat} (h : RingIn w1 R l room fp) (hR : R ∈ fp) (hf : ∀ k ∈ fp, w.heap.size ≤ k) (hb : Below w.heap.size w w1) :
    NewHist w l room (.returned (.pointer (some ⟨w1.heap.size, 0, none⟩))) (w1.alloc (.cells #[.pointer (some ⟨R, 0, none⟩)] 324)) :=
  ⟨w1.heap.size, w1.heap.size :: fp, rfl, ⟨R, fp, heap_alloc_new _ _, h.below (balloc (Below.refl _ _) _), fun hh => by have := h.lt _ hh; omega, rfl, hR⟩, fun k hk => by rcases List.mem_cons.1 hk with rfl | hk; exact hb.size; exact hf k hk, balloc hb _⟩

set_option maxRecDepth 100000 in
set_option maxHeartbeats 4000000 in
theorem histNew_any (room : Nat) (w : World) (h1 : 1 ≤ room) (h2 : room ≤ 64) :
    Calls Tryz.prog 211 #[.int .i64 room] w (NewHist w [] room) := by
  have q1 : ¬ (room : Int) < 1 := by omega
  have q2 : ¬ 64 < (room : Int) := by omega
  go_enter Tryz.func211, Tryz.ntmps211
  go_wp2_with (go_at_call 259; refine (ringNew_any room w h1 (by omega)).mono ?_; rintro e w2 ⟨S, fp, rfl, hr, hS, hf, hb⟩; have HH := Lib.hid (hist_of hr hS hf hb); clear hr hS hf hb)
  go_ret
  exact HH.out

set_option maxRecDepth 100000 in
set_option maxHeartbeats 4000000 in
theorem ringLen_any (R : Nat) (l : List Adv) (room : Nat) (fp : List Nat) (w : World) (h : RingIn w R l room fp) :
    Calls Tryz.prog 271 #[.pointer (some ⟨R, 0, none⟩)] w fun e w' => e = .returned (.int .i64 l.length) ∧ Below w.heap.size w w' := by
  obtain ⟨v, fr, raw, frm, h1, h2, h3, rfl, rfl, h4, h5, h6⟩ := h
  obtain ⟨A, c, rfl⟩ := h2.form
  have z0 : w.cell? ⟨R, 0, none⟩ = some (.slice A raw.length c) := by simp only [World.cell?, h1]; rfl
  have el : (raw.drop frm ++ raw.take frm).length = raw.length := by simp; omega
  rw [el]
  clear h1 h2 h3 h4 h5 h6 el
  go_enter Tryz.func271, Tryz.ntmps271
  go_wp2
  go_ret
  exact ⟨rfl, Below.refl _ _⟩

set_option maxRecDepth 100000 in
set_option maxHeartbeats 4000000 in
theorem kept_any (H R : Nat) (w : World) (h : w.heap[H]? = some (.cells #[.pointer (some ⟨R, 0, none⟩)] 324 (0, 0))) :
    Calls Tryz.prog 219 #[.pointer (some ⟨H, 0, none⟩)] w fun e w' => e = .returned (.pointer (some ⟨R, 0, none⟩)) ∧ Below w.heap.size w w' := by
  have z0 : w.cell? ⟨H, 0, none⟩ = some (.pointer (some ⟨R, 0, none⟩)) := by simp only [World.cell?, h]; rfl
  clear h
  go_enter Tryz.func219, Tryz.ntmps219
  go_wp2
  go_ret
  exact ⟨rfl, Below.refl _ _⟩

set_option maxRecDepth 100000 in
set_option maxHeartbeats 4000000 in
theorem ringClone_any (R : Nat) (l : List Adv) (room : Nat) (fp : List Nat) (w : World) (h : RingIn w R l room fp) (hroom : room ≤ 4096) :
    Calls Tryz.prog 294 #[.pointer (some ⟨R, 0, none⟩)] w (NewRing w l room) := by
  obtain ⟨v, fr, raw, frm, hS, h2, h3, rfl, rfl, h4, h5, h6⟩ := h
  have hSlt := (Array.getElem?_eq_some_iff.1 hS).1
  have hR := Lib.hid (h2.row eAdv)
  have HV := Lib.hid (show SRow advC 44 5 w v raw fr from h2)
  have z0 : w.cell? ⟨R, 0, none⟩ = some v := by simp only [World.cell?, hS]; rfl
  have z1 : w.cell? ⟨R, 1, none⟩ = some (.int .i64 (frm : Nat)) := by simp only [World.cell?, hS]; rfl
  have z2 : w.cell? ⟨R, 2, none⟩ = some (.int .i64 (room : Nat)) := by simp only [World.cell?, hS]; rfl
  have H6 := Lib.hid h6
  clear hS h2 h6
  go_enter Tryz.func294, Tryz.ntmps294
  go_wp2_with fail
  go_region_with ((
    go_at_call 137
    refine calls_named ?_
    intro W4 hW4
    have hb4 : Below w.heap.size w W4 := by rw [hW4]; repeat (first | exact Below.refl _ _ | refine balloc ?_ _ | refine Below.drew ?_)
    clear hW4
    refine (cloneA_any v raw W4 ((HV.out.below hb4).row eAdv) (by omega)).mono ?_
    rintro e w2 ⟨A, c, fp2, rfl, h1, h2, h3⟩
    have hb2 : Below w.heap.size w w2 := bthen hb4 h3
    have z1' := (hb2.cell (p := ⟨R, 1, none⟩) hSlt).trans z1
    have z2' := (hb2.cell (p := ⟨R, 2, none⟩) hSlt).trans z2
    have hS2 : R < w2.heap.size := by have := hb2.size; omega
    have h2' : ∀ k ∈ fp2, w.heap.size ≤ k := fun k hk => by have := h2 k hk; have := hb4.size; omega
    have H1 := Lib.hid h1
    have H2 := Lib.hid h2'
    have H3 := Lib.hid hb2
    clear h1 h2 h3 hb2 h2' hb4))
  all_goals go_wp2
  all_goals go_ret
  all_goals exact ⟨w2.heap.size, w2.heap.size :: fp2, rfl, ⟨.slice A raw.length c, fp2, raw, frm, heap_alloc_new _ _, H1.out.below (balloc (Below.refl _ _) _), fun h => by have := H1.out.lt _ h; omega, rfl, rfl, h4, h5, H6.out⟩, List.mem_cons_self .., fun k hk => by rcases List.mem_cons.1 hk with rfl | hk; exact H3.out.size; exact H2.out k hk, balloc H3.out _⟩

set_option maxRecDepth 100000 in
set_option maxHeartbeats 4000000 in
theorem histClone_any (H : Nat) (l : List Adv) (room : Nat) (fp : List Nat) (w : World) (h : HistIn w H l room fp) (hroom : room ≤ 4096) :
    Calls Tryz.prog 256 #[.pointer (some ⟨H, 0, none⟩)] w (NewHist w l room) := by
  obtain ⟨R, fr, hS, hR, h3, rfl, hRm⟩ := h
  have HR := Lib.hid hR
  have z0 : w.cell? ⟨H, 0, none⟩ = some (.pointer (some ⟨R, 0, none⟩)) := by simp only [World.cell?, hS]; rfl
  clear hS hR
  go_enter Tryz.func256, Tryz.ntmps256
  go_wp2_with (go_at_call 294; refine (ringClone_any R l room fr w HR.out hroom).mono ?_; rintro e w2 ⟨S, fp, rfl, hr, hS, hf, hb⟩; have HH := Lib.hid (hist_of hr hS hf hb); clear hr hS hf hb)
  go_ret
  exact HH.out
end

section
set_option linter.unusedSimpArgs false
set_option linter.unusedVariables false
theorem post_named {P : Program} {f : Func} {Q : Ending → World → Prop} {e : Exit} {a : Act} {w : World} (h : ∀ W, W = w → bodyPost P f Q e a W) : bodyPost P f Q e a w := h w rfl
/-- The world behind a region is named. -/
theorem then_named {K : Act → World → Prop} {Q : Exit → Act → World → Prop} {a : Act} {w : World} (h : ∀ W, W = w → Exit.then K Q Exit.normal a W) : Exit.then K Q Exit.normal a w := h w rfl
end

section
set_option linter.unusedSimpArgs false
set_option linter.unusedVariables false
open Go.RowKit Go.Lib Go.Sort

def pushL (l : List Adv) (room : Nat) (x : Adv) : List Adv := (if l.length < room then l else l.drop 1) ++ [x]
def PushS (w : World) (R : Nat) (l : List Adv) (room : Nat) (fp : List Nat) (e : Ending) (w' : World) : Prop :=
  ∃ u fp', e = .returned u ∧ RingIn w' R l room fp' ∧ R ∈ fp' ∧ Upd w w' fp fp'
/-- The same, in one world: what stands in blocks of the call's own may turn yet. -/
def RAt (w w' : World) (B R : Nat) (l : List Adv) (room : Nat) (fp : List Nat) : Prop :=
  ∃ fp', RingIn w' R l room fp' ∧ R ∈ fp' ∧ Upd w w' fp fp' ∧ (∀ k ∈ fp', k < w.heap.size ∨ B ≤ k)
theorem RAt.set {w w' : World} {B R : Nat} {l : List Adv} {room : Nat} {fp : List Nat} (h : RAt w w' B R l room fp) {b i : Nat} {v : Value} (h1 : w.heap.size ≤ b) (h2 : b < B) : RAt w (w'.setCell ⟨b, i, none⟩ v) B R l room fp := by
  obtain ⟨fp', a1, a2, a3, a4⟩ := h
  have hne : ∀ k ∈ fp', k ≠ b := fun k hk => by have := a4 k hk; omega
  refine ⟨fp', a1.kept (fun r hr => Below.heap_setCell _ _ _ _ (hne r hr)), a2, ?_, a4⟩
  exact ⟨a3.os, a3.tape, a3.output, by simp [World.setCell]; exact a3.size, fun k hk hn => (Below.heap_setCell _ _ _ _ (fun e => by have e' : k = b := e; omega)).trans (a3.block k hk hn), a3.fresh⟩
theorem RAt.below {w w' W : World} {B R : Nat} {l : List Adv} {room : Nat} {fp : List Nat} (h : RAt w w' B R l room fp) (hb : Below w'.heap.size w' W) : RAt w W B R l room fp := by
  obtain ⟨fp', a1, a2, a3, a4⟩ := h
  exact ⟨fp', a1.below hb, a2, a3.trans (Upd.of_below hb _), a4⟩
theorem RAt.says {w w' : World} {B R : Nat} {l : List Adv} {room : Nat} {fp : List Nat} (h : RAt w w' B R l room fp) (u : Value) : PushS w R l room fp (.returned u) w' := by
  obtain ⟨fp', a1, a2, a3, _⟩ := h
  exact ⟨u, fp', rfl, a1, a2, a3⟩
end

section
set_option linter.unusedSimpArgs false
set_option linter.unusedVariables false
open Go.RowKit Go.Lib Go.Sort

theorem box5 {w : World} {B : Nat} {cs : Array Value} {v0 v1 v2 v3 v4 : Value} {T : TypeId} (h : w.heap[B]? = some (.cells #[.int .i64 0, .int .i64 0, .int .i64 0, .int .i64 0, .int .i64 0] T (0, 0))) :
    (((((w.setCell ⟨B, 0, none⟩ v0).setCell ⟨B, 1, none⟩ v1).setCell ⟨B, 2, none⟩ v2).setCell ⟨B, 3, none⟩ v3).setCell ⟨B, 4, none⟩ v4).heap[B]? = some (.cells #[v0, v1, v2, v3, v4] T (0, 0)) :=
  setCell_block (setCell_block (setCell_block (setCell_block (setCell_block h))))
theorem below5 {w a : World} {B : Nat} (h : Below w.heap.size w a) (hB : w.heap.size ≤ B) (v0 v1 v2 v3 v4 : Value) : Below w.heap.size w (((((a.setCell ⟨B, 0, none⟩ v0).setCell ⟨B, 1, none⟩ v1).setCell ⟨B, 2, none⟩ v2).setCell ⟨B, 3, none⟩ v3).setCell ⟨B, 4, none⟩ v4) :=
  (below4 h hB v0 v1 v2 v3).setCell hB _
end

section
set_option linter.unusedSimpArgs false
set_option linter.unusedVariables false
open Go.RowKit Go.Lib Go.Sort
end

end Go.Proofs.YtmniiodpbebnmaaGreat
