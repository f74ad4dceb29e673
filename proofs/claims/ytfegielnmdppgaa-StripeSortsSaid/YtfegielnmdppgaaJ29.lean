/- series.New, List, Clone, Trim. -/
import Derived.Test.YtfegielnmdppgaaJ28
namespace Go.Proofs.Ytfegielnmdppgaa

section
set_option linter.unusedSimpArgs false
set_option linter.unusedVariables false
open Go.RowKit Go.Lib Go.Sort

/-- A new thing, its footprint all new. -/
def NewSer (w : World) (l : List Smp) (room : Int) (e : Ending) (w' : World) : Prop :=
  ∃ S fp, e = .returned (.pointer (some ⟨S, 0, none⟩)) ∧ SerIn w' S l room fp ∧ (∀ k ∈ fp, w.heap.size ≤ k) ∧ Below w.heap.size w w'

set_option maxRecDepth 100000 in
set_option maxHeartbeats 4000000 in
theorem serNew_any (room : Int) (w : World) (h1 : 1 ≤ room) (h2 : room ≤ 256) :
    Calls Try.prog 15 #[.int .i64 room] w (NewSer w [] room) := by
  have q1 : ¬ room < 1 := by omega
  have q2 : ¬ 256 < room := by omega
  go_enter Try.func15, Try.ntmps15
  go_wp2
  go_ret
  refine ⟨w.heap.size, [w.heap.size], rfl, ⟨.slice none 0 0, [], heap_alloc_new _ _, SRow.nil _, by simp, rfl⟩, fun k hk => by simp at hk; omega, balloc (Below.refl _ _) _⟩

set_option maxRecDepth 100000 in
set_option maxHeartbeats 4000000 in
theorem serList_any (S : Nat) (l : List Smp) (room : Int) (fp : List Nat) (w : World) (h : SerIn w S l room fp) (hl : l.length ≤ 1000000) :
    Calls Try.prog 39 #[.pointer (some ⟨S, 0, none⟩)] w (CloneS smpC 65 2 w l) := by
  obtain ⟨v, fr, hS, hrow, _, _⟩ := h
  have C := Lib.hid (cloneS_any v l w (hrow.row eSmp) hl)
  have z0 : w.cell? ⟨S, 0, none⟩ = some v := by simp only [World.cell?, hS]; rfl
  clear hS hrow
  go_enter Try.func39, Try.ntmps39
  go_wp2_with (go_at_call 50; refine C.out.mono ?_; rintro e w2 ⟨A, c, fp, rfl, h1, h2, h3⟩; have H1 := Lib.hid h1; have H2 := Lib.hid h2; have H3 := Lib.hid h3; clear h1 h2 h3)
  go_ret
  exact ⟨A, c, fp, rfl, H1.out, H2.out, H3.out⟩

set_option maxRecDepth 100000 in
set_option maxHeartbeats 4000000 in
theorem serClone_any (S : Nat) (l : List Smp) (room : Int) (fp : List Nat) (w : World) (h : SerIn w S l room fp) (hl : l.length ≤ 1000000) :
    Calls Try.prog 33 #[.pointer (some ⟨S, 0, none⟩)] w (NewSer w l room) := by
  have HS := Lib.hid h
  obtain ⟨v, fr, hS, hrow, _, _⟩ := h
  have hSlt := (Array.getElem?_eq_some_iff.1 hS).1
  have z1 : w.cell? ⟨S, 1, none⟩ = some (.int .i64 room) := by simp only [World.cell?, hS]; rfl
  clear hS hrow
  go_enter Try.func33, Try.ntmps33
  go_wp2_with fail
  go_region_with ((
    go_at_call 39
    refine calls_named ?_
    intro W4 hW4
    have hb4 : Below w.heap.size w W4 := by rw [hW4]; repeat (first | exact Below.refl _ _ | refine balloc ?_ _ | refine Below.drew ?_)
    clear hW4
    refine (serList_any S l room fp W4 (HS.out.below hb4) hl).mono ?_
    rintro e w2 ⟨A, c, fp2, rfl, h1, h2, h3⟩
    have hb2 : Below w.heap.size w w2 := bthen hb4 h3
    have z1' := (hb2.cell (p := ⟨S, 1, none⟩) hSlt).trans z1
    have hS2 : S < w2.heap.size := by have := hb2.size; omega
    have h2' : ∀ k ∈ fp2, w.heap.size ≤ k := fun k hk => by have := h2 k hk; have := hb4.size; omega
    have H1 := Lib.hid h1
    have H2 := Lib.hid h2'
    have H3 := Lib.hid hb2
    clear h1 h2 h3 hb2 h2' hb4))
  all_goals go_wp2
  all_goals go_ret
  all_goals exact ⟨w2.heap.size, w2.heap.size :: fp2, rfl, ⟨.slice A l.length c, fp2, heap_alloc_new _ _, H1.out.below (balloc (Below.refl _ _) _), fun h => by have := H1.out.lt _ h; omega, rfl⟩, fun k hk => by rcases List.mem_cons.1 hk with rfl | hk; exact H3.out.size; exact H2.out k hk, balloc H3.out _⟩

set_option maxRecDepth 100000 in
set_option maxHeartbeats 4000000 in
theorem serTrim_any (S : Nat) (l : List Smp) (room : Int) (fp : List Nat) (t : Int) (w : World) (h : SerIn w S l room fp) (hr : risingS l) (hl : l.length ≤ 1000000) :
    Calls Try.prog 42 #[.pointer (some ⟨S, 0, none⟩), .int .i64 t] w (SerSays w S (l.drop (placeS l t)) room fp (.int .i64 (placeS l t : Nat))) := by
  have HPL := Lib.hid (serPlace_any S l room fp t w h hr (by omega))
  have hpl := placeS_le l t
  generalize placeS l t = p at HPL hpl
  obtain ⟨v, fr, hS, ⟨hown, rfl⟩, hnS, rfl⟩ := h
  have hSlt := (Array.getElem?_eq_some_iff.1 hS).1
  have HO := Lib.hid hown
  have HS := Lib.hid hS
  have hnS' : v.ownBlock ≠ some S := fun e => hnS (by rw [e]; simp)
  have HN := Lib.hid hnS'
  have z0 : w.cell? ⟨S, 0, none⟩ = some v := by simp only [World.cell?, hS]; rfl
  clear hr hnS hown hS hnS'
  go_enter Try.func42, Try.ntmps42
  go_wp2_with (first
    | (go_at_call 35; refine HPL.out.mono ?_; rintro e w2 ⟨rfl, hb2⟩
       have z0' := (hb2.cell (p := ⟨S, 0, none⟩) hSlt).trans z0
       have hsz2 := hb2.size
       have hS2 : S < w2.heap.size := by omega
       have HB2 := Lib.hid hb2)
    | (go_at_call 37
       refine calls_named ?_
       intro W8 hW8
       have hb8 : Below w.heap.size w W8 := by rw [hW8]; exact HB2.out
       clear hW8
       have hS8 := (hb8.block S hSlt).trans HS.out
       refine (delete_any 0 _ l p W8 (HO.out.below hb8) (by omega) (by omega)).mono ?_
       rintro e w9 ⟨A9, c9, rfl, hown9, hg9, hblk9⟩
       have hS9 := (hg9.block S (Array.getElem?_eq_some_iff.1 hS8).1 (fun e => HN.out e.symm)).trans hS8
       obtain ⟨g1, g2, g3⟩ := box_cells (Below.refl _ _) hS9
       have HST9 := Lib.hid (ser_step hS8 HN.out hown9 hg9 hblk9)
       have HB8 := Lib.hid hb8
       clear hown9 hg9 hblk9 hS9 hS8 hb8))
  go_ret
  obtain ⟨h1, h2⟩ := HST9.out
  rw [List.length_drop] at h1 h2
  exact ⟨_, rfl, h1, (Upd.of_below HB8.out _).trans h2⟩
end

end Go.Proofs.Ytfegielnmdppgaa
