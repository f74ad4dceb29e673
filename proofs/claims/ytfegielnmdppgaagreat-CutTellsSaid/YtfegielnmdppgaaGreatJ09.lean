/- ring.Ring and history.History over decisions, in memory: New, Len, kept, Clone; the ring's steps in plain Lean; ring.Push while there is room. -/
import Derived.Test.YtfegielnmdppgaaGreatJ08
namespace Go.Proofs.YtfegielnmdppgaaGreat

section
set_option linter.unusedSimpArgs false
set_option linter.unusedVariables false
open Go.RowKit Go.Lib Go.Sort

/-- A ring at block R whose list, its first one first, is l. -/
def RingIn (w : World) (R : Nat) (l : List Adv) (room : Nat) (fp : List Nat) : Prop :=
  ∃ v fr raw frm, w.heap[R]? = some (.cells #[v, .int .i64 (frm : Nat), .int .i64 (room : Nat)] 262 (0, 0)) ∧ SRow advC 46 5 w v raw fr ∧ R ∉ fr ∧ fp = R :: fr ∧
    l = raw.drop frm ++ raw.take frm ∧ raw.length ≤ room ∧ frm < room ∧ (raw.length < room → frm = 0)
theorem RingIn.kept {w w' : World} {S : Nat} {l : List Adv} {room : Nat} {fp : List Nat} (h : RingIn w S l room fp) (hb : ∀ r ∈ fp, w'.heap[r]? = w.heap[r]?) : RingIn w' S l room fp := by
  obtain ⟨v, fr, raw, frm, h1, h2, h3, rfl, h4⟩ := h
  exact ⟨v, fr, raw, frm, (hb S (List.mem_cons_self ..)).trans h1, h2.kept (fun r hr => hb r (List.mem_cons_of_mem _ hr)), h3, rfl, h4⟩
theorem RingIn.lt {w : World} {S : Nat} {l : List Adv} {room : Nat} {fp : List Nat} (h : RingIn w S l room fp) : ∀ r ∈ fp, r < w.heap.size := by
  obtain ⟨v, fr, raw, frm, h1, h2, h3, rfl, h4⟩ := h
  intro r hr
  rcases List.mem_cons.1 hr with rfl | hr
  · exact (Array.getElem?_eq_some_iff.1 h1).1
  · exact h2.lt r hr
theorem RingIn.below {w w' : World} {S : Nat} {l : List Adv} {room : Nat} {fp : List Nat} (h : RingIn w S l room fp) (hb : Below w.heap.size w w') : RingIn w' S l room fp := h.kept (fun r hr => hb.block r (h.lt r hr))
theorem RingIn.len {w : World} {S : Nat} {l : List Adv} {room : Nat} {fp : List Nat} (h : RingIn w S l room fp) : l.length ≤ room := by
  obtain ⟨v, fr, raw, frm, h1, h2, h3, rfl, rfl, h4, h5, h6⟩ := h
  simp; omega
/-- A history at block H. -/
def HistIn (w : World) (H : Nat) (l : List Adv) (room : Nat) (fp : List Nat) : Prop :=
  ∃ R fr, w.heap[H]? = some (.cells #[.pointer (some ⟨R, 0, none⟩)] 224 (0, 0)) ∧ RingIn w R l room fr ∧ H ∉ fr ∧ fp = H :: fr ∧ R ∈ fr
theorem HistIn.kept {w w' : World} {S : Nat} {l : List Adv} {room : Nat} {fp : List Nat} (h : HistIn w S l room fp) (hb : ∀ r ∈ fp, w'.heap[r]? = w.heap[r]?) : HistIn w' S l room fp := by
  obtain ⟨R, fr, h1, h2, h3, rfl, h5⟩ := h
  exact ⟨R, fr, (hb S (List.mem_cons_self ..)).trans h1, h2.kept (fun r hr => hb r (List.mem_cons_of_mem _ hr)), h3, rfl, h5⟩
theorem HistIn.lt {w : World} {S : Nat} {l : List Adv} {room : Nat} {fp : List Nat} (h : HistIn w S l room fp) : ∀ r ∈ fp, r < w.heap.size := by
  obtain ⟨R, fr, h1, h2, h3, rfl, h5⟩ := h
  intro r hr
  rcases List.mem_cons.1 hr with rfl | hr
  · exact (Array.getElem?_eq_some_iff.1 h1).1
  · exact h2.lt r hr
theorem HistIn.below {w w' : World} {S : Nat} {l : List Adv} {room : Nat} {fp : List Nat} (h : HistIn w S l room fp) (hb : Below w.heap.size w w') : HistIn w' S l room fp := h.kept (fun r hr => hb.block r (h.lt r hr))
theorem HistIn.len {w : World} {S : Nat} {l : List Adv} {room : Nat} {fp : List Nat} (h : HistIn w S l room fp) : l.length ≤ room := by
  obtain ⟨R, fr, h1, h2, h3, rfl, h5⟩ := h
  exact h2.len

def NewRing (w : World) (l : List Adv) (room : Nat) (e : Ending) (w' : World) : Prop :=
  ∃ S fp, e = .returned (.pointer (some ⟨S, 0, none⟩)) ∧ RingIn w' S l room fp ∧ S ∈ fp ∧ (∀ k ∈ fp, w.heap.size ≤ k) ∧ Below w.heap.size w w'
def NewHist (w : World) (l : List Adv) (room : Nat) (e : Ending) (w' : World) : Prop :=
  ∃ S fp, e = .returned (.pointer (some ⟨S, 0, none⟩)) ∧ HistIn w' S l room fp ∧ (∀ k ∈ fp, w.heap.size ≤ k) ∧ Below w.heap.size w w'

set_option maxRecDepth 100000 in
set_option maxHeartbeats 4000000 in
theorem ringNew_any (room : Nat) (w : World) (h1 : 1 ≤ room) (h2 : room ≤ 4096) :
    Calls Tryz.prog 133 #[.int .i64 room] w (NewRing w [] room) := by
  have q1 : ¬ (room : Int) < 1 := by omega
  have q2 : ¬ 4096 < (room : Int) := by omega
  go_enter Tryz.func133, Tryz.ntmps133
  go_wp2
  go_ret
  exact ⟨w.heap.size, [w.heap.size], rfl, ⟨.slice none 0 0, [], [], 0, heap_alloc_new _ _, SRow.nil _, by simp, rfl, rfl, by simp, by omega, fun _ => rfl⟩, by simp, fun k hk => by simp at hk; omega, balloc (Below.refl _ _) _⟩

theorem hist_of {w w1 : World} {R : Nat} {l : List Adv} {room : Nat} {fp : List Nat} (h : RingIn w1 R l room fp) (hR : R ∈ fp) (hf : ∀ k ∈ fp, w.heap.size ≤ k) (hb : Below w.heap.size w w1) :
    NewHist w l room (.returned (.pointer (some ⟨w1.heap.size, 0, none⟩))) (w1.alloc (.cells #[.pointer (some ⟨R, 0, none⟩)] 224)) :=
  ⟨w1.heap.size, w1.heap.size :: fp, rfl, ⟨R, fp, heap_alloc_new _ _, h.below (balloc (Below.refl _ _) _), fun hh => by have := h.lt _ hh; omega, rfl, hR⟩, fun k hk => by rcases List.mem_cons.1 hk with rfl | hk; exact hb.size; exact hf k hk, balloc hb _⟩

set_option maxRecDepth 100000 in
set_option maxHeartbeats 4000000 in
theorem histNew_any (room : Nat) (w : World) (h1 : 1 ≤ room) (h2 : room ≤ 64) :
    Calls Tryz.prog 66 #[.int .i64 room] w (NewHist w [] room) := by
  have q1 : ¬ (room : Int) < 1 := by omega
  have q2 : ¬ 64 < (room : Int) := by omega
  go_enter Tryz.func66, Tryz.ntmps66
  go_wp2_with (go_at_call 133; refine (ringNew_any room w h1 (by omega)).mono ?_; rintro e w2 ⟨S, fp, rfl, hr, hS, hf, hb⟩; have HH := Lib.hid (hist_of hr hS hf hb); clear hr hS hf hb)
  go_ret
  exact HH.out

set_option maxRecDepth 100000 in
set_option maxHeartbeats 4000000 in
theorem ringLen_any (R : Nat) (l : List Adv) (room : Nat) (fp : List Nat) (w : World) (h : RingIn w R l room fp) :
    Calls Tryz.prog 218 #[.pointer (some ⟨R, 0, none⟩)] w fun e w' => e = .returned (.int .i64 l.length) ∧ Below w.heap.size w w' := by
  obtain ⟨v, fr, raw, frm, h1, h2, h3, rfl, rfl, h4, h5, h6⟩ := h
  obtain ⟨A, c, rfl⟩ := h2.form
  have z0 : w.cell? ⟨R, 0, none⟩ = some (.slice A raw.length c) := by simp only [World.cell?, h1]; rfl
  have el : (raw.drop frm ++ raw.take frm).length = raw.length := by simp; omega
  rw [el]
  clear h1 h2 h3 h4 h5 h6 el
  go_enter Tryz.func218, Tryz.ntmps218
  go_wp2
  go_ret
  exact ⟨rfl, Below.refl _ _⟩

set_option maxRecDepth 100000 in
set_option maxHeartbeats 4000000 in
theorem kept_any (H R : Nat) (w : World) (h : w.heap[H]? = some (.cells #[.pointer (some ⟨R, 0, none⟩)] 224 (0, 0))) :
    Calls Tryz.prog 182 #[.pointer (some ⟨H, 0, none⟩)] w fun e w' => e = .returned (.pointer (some ⟨R, 0, none⟩)) ∧ Below w.heap.size w w' := by
  have z0 : w.cell? ⟨H, 0, none⟩ = some (.pointer (some ⟨R, 0, none⟩)) := by simp only [World.cell?, h]; rfl
  clear h
  go_enter Tryz.func182, Tryz.ntmps182
  go_wp2
  go_ret
  exact ⟨rfl, Below.refl _ _⟩

set_option maxRecDepth 100000 in
set_option maxHeartbeats 4000000 in
theorem ringClone_any (R : Nat) (l : List Adv) (room : Nat) (fp : List Nat) (w : World) (h : RingIn w R l room fp) (hroom : room ≤ 4096) :
    Calls Tryz.prog 246 #[.pointer (some ⟨R, 0, none⟩)] w (NewRing w l room) := by
  obtain ⟨v, fr, raw, frm, hS, h2, h3, rfl, rfl, h4, h5, h6⟩ := h
  have hSlt := (Array.getElem?_eq_some_iff.1 hS).1
  have hR := Lib.hid (h2.row eAdv)
  have HV := Lib.hid (show SRow advC 46 5 w v raw fr from h2)
  have z0 : w.cell? ⟨R, 0, none⟩ = some v := by simp only [World.cell?, hS]; rfl
  have z1 : w.cell? ⟨R, 1, none⟩ = some (.int .i64 (frm : Nat)) := by simp only [World.cell?, hS]; rfl
  have z2 : w.cell? ⟨R, 2, none⟩ = some (.int .i64 (room : Nat)) := by simp only [World.cell?, hS]; rfl
  have H6 := Lib.hid h6
  clear hS h2 h6
  go_enter Tryz.func246, Tryz.ntmps246
  go_wp2_with fail
  go_region_with ((
    go_at_call 263
    refine calls_named ?_
    intro W4 hW4
    have hb4 : Below w.heap.size w W4 := by rw [hW4]; repeat (first | exact Below.refl _ _ | refine balloc ?_ _ | refine Below.drew ?_)
    clear hW4
    refine (cloneA_any v raw W4 ((HV.out.below hb4).row eAdv) (by omega)).mono ?_
    rintro e w2 ⟨A, c, fp2, rfl, h1, h2, h3⟩
    have hb2 : Below w.heap.size w w2 := bthen hb4 h3
    have z1' := (hb2.cell (p := ⟨R, 1, none⟩) hSlt).trans z1
    have z2' := (hb2.cell (p := ⟨R, 2, none⟩) hSlt).trans z2
    have hS2 : R < w2.heap.size := by have := hb2.size; omega
    have h2' : ∀ k ∈ fp2, w.heap.size ≤ k := fun k hk => by have := h2 k hk; have := hb4.size; omega
    have H1 := Lib.hid h1
    have H2 := Lib.hid h2'
    have H3 := Lib.hid hb2
    clear h1 h2 h3 hb2 h2' hb4))
  all_goals go_wp2
  all_goals go_ret
  all_goals exact ⟨w2.heap.size, w2.heap.size :: fp2, rfl, ⟨.slice A raw.length c, fp2, raw, frm, heap_alloc_new _ _, H1.out.below (balloc (Below.refl _ _) _), fun h => by have := H1.out.lt _ h; omega, rfl, rfl, h4, h5, H6.out⟩, List.mem_cons_self .., fun k hk => by rcases List.mem_cons.1 hk with rfl | hk; exact H3.out.size; exact H2.out k hk, balloc H3.out _⟩

set_option maxRecDepth 100000 in
set_option maxHeartbeats 4000000 in
theorem histClone_any (H : Nat) (l : List Adv) (room : Nat) (fp : List Nat) (w : World) (h : HistIn w H l room fp) (hroom : room ≤ 4096) :
    Calls Tryz.prog 213 #[.pointer (some ⟨H, 0, none⟩)] w (NewHist w l room) := by
  obtain ⟨R, fr, hS, hR, h3, rfl, hRm⟩ := h
  have HR := Lib.hid hR
  have z0 : w.cell? ⟨H, 0, none⟩ = some (.pointer (some ⟨R, 0, none⟩)) := by simp only [World.cell?, hS]; rfl
  clear hS hR
  go_enter Tryz.func213, Tryz.ntmps213
  go_wp2_with (go_at_call 246; refine (ringClone_any R l room fr w HR.out hroom).mono ?_; rintro e w2 ⟨S, fp, rfl, hr, hS, hf, hb⟩; have HH := Lib.hid (hist_of hr hS hf hb); clear hr hS hf hb)
  go_ret
  exact HH.out
end

section
set_option linter.unusedSimpArgs false
set_option linter.unusedVariables false
open Go.RowKit Go.Lib Go.Sort

def pushL (l : List Adv) (room : Nat) (x : Adv) : List Adv := (if l.length < room then l else l.drop 1) ++ [x]
def PushS (w : World) (R : Nat) (l : List Adv) (room : Nat) (fp : List Nat) (e : Ending) (w' : World) : Prop :=
  ∃ u fp', e = .returned u ∧ RingIn w' R l room fp' ∧ R ∈ fp' ∧ Upd w w' fp fp'
/-- The same, in one world: what stands in blocks of the call's own may turn yet. -/
def RAt (w w' : World) (B R : Nat) (l : List Adv) (room : Nat) (fp : List Nat) : Prop :=
  ∃ fp', RingIn w' R l room fp' ∧ R ∈ fp' ∧ Upd w w' fp fp' ∧ (∀ k ∈ fp', k < w.heap.size ∨ B ≤ k)
theorem RAt.set {w w' : World} {B R : Nat} {l : List Adv} {room : Nat} {fp : List Nat} (h : RAt w w' B R l room fp) {b i : Nat} {v : Value} (h1 : w.heap.size ≤ b) (h2 : b < B) : RAt w (w'.setCell ⟨b, i, none⟩ v) B R l room fp := by
  obtain ⟨fp', a1, a2, a3, a4⟩ := h
  have hne : ∀ k ∈ fp', k ≠ b := fun k hk => by have := a4 k hk; omega
  refine ⟨fp', a1.kept (fun r hr => Below.heap_setCell _ _ _ _ (hne r hr)), a2, ?_, a4⟩
  exact ⟨a3.os, a3.tape, a3.output, by simp [World.setCell]; exact a3.size, fun k hk hn => (Below.heap_setCell _ _ _ _ (fun e => by have e' : k = b := e; omega)).trans (a3.block k hk hn), a3.fresh⟩
theorem RAt.below {w w' W : World} {B R : Nat} {l : List Adv} {room : Nat} {fp : List Nat} (h : RAt w w' B R l room fp) (hb : Below w'.heap.size w' W) : RAt w W B R l room fp := by
  obtain ⟨fp', a1, a2, a3, a4⟩ := h
  exact ⟨fp', a1.below hb, a2, a3.trans (Upd.of_below hb _), a4⟩
theorem RAt.says {w w' : World} {B R : Nat} {l : List Adv} {room : Nat} {fp : List Nat} (h : RAt w w' B R l room fp) (u : Value) : PushS w R l room fp (.returned u) w' := by
  obtain ⟨fp', a1, a2, a3, _⟩ := h
  exact ⟨u, fp', rfl, a1, a2, a3⟩

theorem ring_step {w w5 w3 w' : World} {R : Nat} {v v' : Value} {frm room : Nat} {out : List Adv} (hS : w.heap[R]? = some (.cells #[v, .int .i64 (frm : Nat), .int .i64 (room : Nat)] 262 (0, 0))) (hne : v.ownBlock ≠ some R) (hv : ∀ r, v.ownBlock = some r → r < w.heap.size)
    (hb5 : Below w.heap.size w w5) (hb35 : Below w5.heap.size w5 w3) (hown : OwnL advC 46 5 0 w' v' out) (hg : w3.grownBy w' v.ownBlock) (hb : v'.ownBlock = v.ownBlock ∨ ∀ r, v'.ownBlock = some r → w3.heap.size ≤ r) (h1 : out.length ≤ room) (h2 : frm < room) (h3 : out.length < room → frm = 0) :
    RAt w (w'.setCell ⟨R, 0, none⟩ v') w5.heap.size R (out.drop frm ++ out.take frm) room (R :: v.ownBlock.toList) := by
  have hb3 := bthen hb5 hb35
  have h53 := hb35.size
  have hSlt := (Array.getElem?_eq_some_iff.1 hS).1
  have hS3 := (hb3.block R hSlt).trans hS
  have hSlt3 := (Array.getElem?_eq_some_iff.1 hS3).1
  have hS' := (hg.block R hSlt3 (fun e => hne e.symm)).trans hS3
  have hne' : v'.ownBlock ≠ some R := fun e => by
    rcases hb with h | h
    · exact hne (h ▸ e)
    · have := h R e; omega
  refine ⟨R :: v'.ownBlock.toList, ⟨v', v'.ownBlock.toList, out, frm, setCell_block hS', ⟨hown.kept (fun r hr => Below.heap_setCell _ _ _ _ (fun e => by have e' : r = R := e; rw [e'] at hr; exact hne' hr)), rfl⟩, by simpa using hne', rfl, rfl, h1, h2, h3⟩, List.mem_cons_self .., ?_, ?_⟩
  · refine (Upd.of_below hb3 _).trans ⟨hg.os, hg.tape, hg.output, by simp [World.setCell]; exact hg.size, fun k hk hn => ?_, fun k hk => ?_⟩
    · simp only [List.mem_cons, Option.mem_toList, not_or] at hn
      exact (Below.heap_setCell _ _ _ _ hn.1).trans (hg.block k hk (fun e => hn.2 e.symm))
    · rcases List.mem_cons.1 hk with rfl | hk
      · exact .inl (List.mem_cons_self ..)
      · have hk' : v'.ownBlock = some k := by simpa using hk
        rcases hb with h | h
        · exact .inl (List.mem_cons_of_mem _ (by rw [← h]; simpa using hk'))
        · exact .inr (h k hk')
  · intro k hk
    rcases List.mem_cons.1 hk with rfl | hk
    · exact .inl hSlt
    · have hk' : v'.ownBlock = some k := by simpa using hk
      rcases hb with h | h
      · exact .inl (hv k (by rw [← h]; exact hk'))
      · exact .inr (Nat.le_trans h53 (h k hk'))

theorem then_named {K : Act → World → Prop} {Q : Exit → Act → World → Prop} {a : Act} {w : World} (h : ∀ W, W = w → Exit.then K Q Exit.normal a W) : Exit.then K Q Exit.normal a w := h w rfl

set_option maxRecDepth 100000 in
set_option maxHeartbeats 4000000 in
theorem push_room (R : Nat) (l : List Adv) (room : Nat) (fp : List Nat) (x : Adv) (w : World) (h : RingIn w R l room fp) (hroom : room ≤ 4096) (hl : l.length < room) :
    Calls Tryz.prog 217 #[.pointer (some ⟨R, 0, none⟩), .agg (advC x).toArray] w (PushS w R (l ++ [x]) room fp) := by
  obtain ⟨v, fr, raw, frm, hS, ⟨hown, rfl⟩, h3, rfl, rfl, h4, h5, h6⟩ := h
  have hlr : raw.length < room := by simp at hl; omega
  obtain rfl := h6 hlr
  have hSlt := (Array.getElem?_eq_some_iff.1 hS).1
  obtain ⟨A, c, rfl⟩ := hown.form
  have hnS' : (Value.slice A raw.length c).ownBlock ≠ some R := fun e => h3 (by rw [e]; simp)
  have HN := Lib.hid hnS'
  have HO := Lib.hid hown
  have HS := Lib.hid hS
  have z0 : w.cell? ⟨R, 0, none⟩ = some (.slice A raw.length c) := by simp only [World.cell?, hS]; rfl
  have z2 : w.cell? ⟨R, 2, none⟩ = some (.int .i64 (room : Nat)) := by simp only [World.cell?, hS]; rfl
  have q0 : ((room : Int) == 0) = false := by simp; omega
  have q1 : (raw.length : Int) < (room : Int) := by omega
  have z2' : ∀ o1 o2 o3, (((w.alloc o1).alloc o2).alloc o3).cell? ⟨R, 2, none⟩ = some (.int .i64 (room : Nat)) := fun o1 o2 o3 => ((balloc (balloc (balloc (Below.refl _ _) _) _) _).cell (p := ⟨R, 2, none⟩) hSlt).trans z2
  rw [List.drop_zero, List.take_zero, List.append_nil]
  clear hS hown h3 hnS' hl h6
  unfold advC
  go_enter Tryz.func217, Tryz.ntmps217
  go_wp2_with fail
  refine name_world ?_
  intro W3 hW3
  obtain ⟨hx3, hy3, hu3, hsz3, hb3⟩ := three_boxes w _ _ _ W3 hW3
  have hsz : w.heap.size + 2 < W3.heap.size := by omega
  clear hW3 hsz3
  have hS3 := (hb3.block R hSlt).trans HS.out
  obtain ⟨a1, a2, a3⟩ := box_cells (Below.refl _ _) hx3
  obtain ⟨a4, a5, a6⟩ := box_cells (Below.refl _ _) hS3
  have HB3 := Lib.hid hb3
  have HY := Lib.hid hy3
  have HX := Lib.hid hx3
  have HU := Lib.hid hu3
  have HS3 := Lib.hid hS3
  clear hb3 hx3 hy3 hu3 hS3
  go_quiet (fail)
  go_wp2_with fail
  refine name_world ?_
  intro W5 hW5
  have hb5 : Below W3.heap.size W3 W5 := by rw [hW5]; exact below_drewN (Below.refl _ _) _
  have hb5' := bthen HB3.out hb5
  have hS5 := (hb5.block R a6).trans HS3.out
  have hx5 := (hb5.block _ a3).trans HX.out
  have hy5 := (hb5.block _ (by omega)).trans HY.out
  have hu5 := (hb5.block _ (by omega)).trans HU.out
  have hsz5 : w.heap.size + 2 < W5.heap.size := by have := hb5.size; omega
  clear hW5 hb5 a1 a2 a3 a4 a5 a6 hsz HB3 HY HU HS3 HX
  obtain ⟨a1, a2, a3⟩ := box_cells (Below.refl _ _) hx5
  obtain ⟨a4, a5, a6⟩ := box_cells (Below.refl _ _) hS5
  have HB3 := Lib.hid hb5'
  have HY := Lib.hid hy5
  have HU := Lib.hid hu5
  have HS3 := Lib.hid hS5
  clear hb5' hy5 hu5 hS5 hx5
  go_region_law ((
    refine step_appendL eAdv (by rfl) (.tmp 34) (.tmp 36) (by rfl) 0 raw [x] _ _ (by rfl) (by rfl) ((HO.out.below HB3.out).below (by repeat (first | exact Below.refl _ _ | refine balloc ?_ _ | refine Below.drew ?_ | refine below_drewN ?_ _))) (RowIn.lit _ x _ _ _ (by first | rfl | simp) rfl) (by simp; omega) (by simp) ?_
    intro out4 A4 c4 w4 hout hown4 hg4 hblk4
    have hbz : ∀ W, Below W5.heap.size W5 W → W.heap[R]? = some (.cells #[.slice A raw.length c, .int .i64 (0 : Nat), .int .i64 (room : Nat)] 262 (0, 0)) := fun W h => (h.block R a6).trans HS3.out
    have hS4 := (hg4.block R (by simp; omega) (fun e => HN.out e.symm)).trans (hbz _ (by repeat (first | exact Below.refl _ _ | refine balloc ?_ _ | refine Below.drew ?_ | refine below_drewN ?_ _)))
    obtain ⟨e1, e2, e3⟩ := box_cells (Below.refl _ _) hS4
    have hblt : ∀ r, (Value.slice A raw.length c).ownBlock = some r → r < w.heap.size := fun r hr => (HO.out.lt hr).2
    have hY4 := (hg4.block (w.heap.size + 1) (by simp; omega) (fun e => by have := hblt _ e.symm; omega)).trans ((Below.block (w := W5) (B := W5.heap.size) (by repeat (first | exact Below.refl _ _ | refine balloc ?_ _ | refine Below.drew ?_ | refine below_drewN ?_ _)) _ (by omega)).trans HY.out)
    have hU4 := (hg4.block (w.heap.size + 1 + 1) (by simp; omega) (fun e => by have := hblt _ e.symm; omega)).trans ((Below.block (w := W5) (B := W5.heap.size) (by repeat (first | exact Below.refl _ _ | refine balloc ?_ _ | refine Below.drew ?_ | refine below_drewN ?_ _)) _ (by omega)).trans HU.out)
    have HY4 := Lib.hid hY4
    have HU4 := Lib.hid hU4
    have HOUT := Lib.hid hout
    have HXX := Lib.hid (ring_step (frm := 0) HS.out HN.out (fun r hr => (HO.out.lt hr).2) HB3.out (by repeat (first | exact Below.refl _ _ | refine balloc ?_ _ | refine Below.drew ?_ | refine below_drewN ?_ _)) hown4 hg4 (hblk4.imp id (fun e r hr => by rw [e] at hr; injection hr with hr; omega)) (by rw [hout]; simp; omega) h5 (fun _ => rfl))
    clear hblt hY4 hU4 hbz hS4 hout hown4 hg4 hblk4))
  all_goals
    refine then_named ?_
    intro W6 hW6
    have hW6' : ∃ W, W6 = W ∧ Below (w4.setCell ⟨R, 0, none⟩ (.slice A4 out4.length c4)).heap.size (w4.setCell ⟨R, 0, none⟩ (.slice A4 out4.length c4)) W := ⟨_, hW6, by repeat (first | exact Below.refl _ _ | refine balloc ?_ _ | refine Below.drew ?_)⟩
    obtain ⟨W7, rfl, hb6⟩ := hW6'
    clear hW6
    have HRA := Lib.hid (HXX.out.below hb6)
    have hY6 : W6.heap[w.heap.size + 1]? = _ := (hb6.block _ (by simp [World.setCell]; exact (Array.getElem?_eq_some_iff.1 HY4.out).1)).trans ((Below.heap_setCell _ _ _ _ (fun e => by have e' : w.heap.size + 1 = R := e; omega)).trans HY4.out)
    have hU6 : W6.heap[w.heap.size + 1 + 1]? = _ := (hb6.block _ (by simp [World.setCell]; exact (Array.getElem?_eq_some_iff.1 HU4.out).1)).trans ((Below.heap_setCell _ _ _ _ (fun e => by have e' : w.heap.size + 1 + 1 = R := e; omega)).trans HU4.out)
    obtain ⟨f1, f2, f3⟩ := box_cells (Below.refl _ _) hY6
    obtain ⟨f4, f5, f6⟩ := box_cells (Below.refl _ _) hU6
    clear hb6 hY6 hU6 e1 e2 e3 a1 a2 a3 a4 a5 a6
    go_wp2
    have hra := HRA.out
    rw [List.drop_zero, List.take_zero, List.append_nil, HOUT.out] at hra
    refine bodyPost_ret (v := .tuple #[.agg #[.int .i64 0, .int .i64 0, .int .i64 0, .int .i64 0, .int .i64 0], .bool false]) (by simp [results, Tryz.results217, go_sem, f1, f2, f3]) rfl ?_
    refine RAt.says (B := W5.heap.size) ?_ _
    have c1 : w.heap.size ≤ w.heap.size + 1 := by omega
    have c2 : w.heap.size + 1 < W5.heap.size := by omega
    exact ((((hra.set c1 c2).set c1 c2).set c1 c2).set c1 c2).set c1 c2
end

end Go.Proofs.YtfegielnmdppgaaGreat
