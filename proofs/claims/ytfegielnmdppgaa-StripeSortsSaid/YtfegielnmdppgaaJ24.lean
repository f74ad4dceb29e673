/- series.Series in memory: New, place, List. -/
import Derived.Test.YtfegielnmdppgaaJ23
import Derived.Sort.Grow
import Derived.Shelf.SlSorted.Search
namespace Go.Proofs.Ytfegielnmdppgaa

section
set_option linter.unusedSimpArgs false
set_option linter.unusedVariables false
open Go.RowKit Go.Lib Go.Sort Go.Shelf

/-- A series at block S: its samples, its room; its footprint. -/
def SerIn (w : World) (S : Nat) (l : List Smp) (room : Int) (fp : List Nat) : Prop :=
  ∃ v fr, w.heap[S]? = some (.cells #[v, .int .i64 room] 76 (0, 0)) ∧ SRow smpC 65 2 w v l fr ∧ S ∉ fr ∧ fp = S :: fr
theorem SerIn.kept {w w' : World} {S : Nat} {l : List Smp} {room : Int} {fp : List Nat} (h : SerIn w S l room fp) (hb : ∀ r ∈ fp, w'.heap[r]? = w.heap[r]?) : SerIn w' S l room fp := by
  obtain ⟨v, fr, h1, h2, h3, rfl⟩ := h
  exact ⟨v, fr, (hb S (List.mem_cons_self ..)).trans h1, h2.kept (fun r hr => hb r (List.mem_cons_of_mem _ hr)), h3, rfl⟩
theorem SerIn.lt {w : World} {S : Nat} {l : List Smp} {room : Int} {fp : List Nat} (h : SerIn w S l room fp) : ∀ r ∈ fp, r < w.heap.size := by
  obtain ⟨v, fr, h1, h2, h3, rfl⟩ := h
  intro r hr
  rcases List.mem_cons.1 hr with rfl | hr
  · exact (Array.getElem?_eq_some_iff.1 h1).1
  · exact h2.lt r hr
theorem SerIn.below {w w' : World} {S : Nat} {l : List Smp} {room : Int} {fp : List Nat} (h : SerIn w S l room fp) (hb : Below w.heap.size w w') : SerIn w' S l room fp := h.kept (fun r hr => hb.block r (h.lt r hr))
theorem SerIn.mem {w : World} {S : Nat} {l : List Smp} {room : Int} {fp : List Nat} (h : SerIn w S l room fp) : S ∈ fp := by
  obtain ⟨_, _, _, _, _, rfl⟩ := h
  exact List.mem_cons_self ..

def risingS (l : List Smp) : Prop := l.Pairwise (fun a b => a.1 < b.1)
/-- Where a tick's sample stands, or would. -/
def placeS (l : List Smp) (t : Int) : Nat := l.countP (fun x => !decide (t ≤ x.1))
theorem placeS_le (l : List Smp) (t : Int) : placeS l t ≤ l.length := List.countP_le_length ..

set_option maxRecDepth 100000 in
set_option maxHeartbeats 2000000 in
theorem serPlace_closure (bs bt S g o c n : Nat) (t y : Int) (i : Nat) (W : World) (hi : i < n)
    (h1 : W.cell? ⟨bs, 0, none⟩ = some (.pointer (some ⟨S, 0, none⟩))) (h2 : W.cell? ⟨bt, 0, none⟩ = some (.int .i64 t)) (h3 : W.cell? ⟨S, 0, none⟩ = some (.slice (some ⟨g, o, none⟩) n c)) (h4 : W.cell? ⟨g, o + i * 2, none⟩ = some (.int .i64 y)) :
    Calls Try.prog 45 (#[.int .i64 i] ++ #[.pointer (some ⟨bs, 0, none⟩), .pointer (some ⟨bt, 0, none⟩)]) W fun e w' => e = .returned (.bool (decide (t ≤ y))) ∧ ∃ q, w' = W.drewN q := by
  have hi0 : (0 : Int) ≤ (i : Int) := by omega
  have hi1 : (i : Int) < (n : Int) := by omega
  go_enter Try.func45, Try.ntmps45
  go_wp2_with fail
  go_quiet (fail)
  go_wp2
  go_ret
  exact ⟨ret_bool (by first | rfl | simp), _, rfl⟩

theorem two_single (w : World) (x y : Value) (T U : TypeId) : ∀ W, W = (w.alloc (.cells #[x] T)).alloc (.cells #[y] U) → W.heap[w.heap.size]? = some (.cells #[x] T (0, 0)) ∧ W.heap[w.heap.size + 1]? = some (.cells #[y] U (0, 0)) ∧ Below w.heap.size w W ∧ W.heap.size = w.heap.size + 2 := by
  rintro W rfl
  exact ⟨box_old _ _ _, box_new _ _ _, balloc (balloc (Below.refl _ _) _) _, by simp⟩
theorem cell_gd {W : World} {a : Addr} {v : Value} (h : W.cell? a = some v) (hb : a.block < W.heap.size) (m : Nat) (os : Array Obj) : (grow (W.drewN m) os).cell? a = some v := by
  rw [← h]
  refine World.cell?_of_block ?_
  exact Array.getElem?_append_left hb
theorem below_gd (w : World) (q : Nat) (os : Array Obj) : Below w.heap.size w (grow (w.drewN q) os) := ⟨rfl, rfl, rfl, by simp [grow], fun k hk => Array.getElem?_append_left hk⟩

set_option maxRecDepth 100000 in
set_option maxHeartbeats 2000000 in
theorem serPlace_any (S : Nat) (l : List Smp) (room : Int) (fp : List Nat) (t : Int) (w : World) (h : SerIn w S l room fp) (hr : risingS l) (hl : l.length ≤ 1000000) :
    Calls Try.prog 35 #[.pointer (some ⟨S, 0, none⟩), .int .i64 t] w fun e w' => e = .returned (.int .i64 (placeS l t : Nat)) ∧ Below w.heap.size w w' := by
  obtain ⟨v, fr, hS, hrow, _, _⟩ := h
  have hSlt := (Array.getElem?_eq_some_iff.1 hS).1
  obtain ⟨A, c, rfl⟩ := hrow.form
  have hR := hrow.row eSmp
  obtain ⟨W, hW⟩ : ∃ W, W = (w.alloc (.cells #[.pointer (some ⟨S, 0, none⟩)] 47)).alloc (.cells #[.int .i64 t] 2) := ⟨_, rfl⟩
  obtain ⟨b1, b2, hbW, hsz⟩ := two_single w _ _ _ _ W hW
  have hS1 := (hbW.block S hSlt).trans hS
  obtain ⟨k1, k2, k3⟩ := box_cells (Below.refl _ _) hS1
  obtain ⟨k4, k5, k6⟩ := box_cells (Below.refl _ _) b1
  obtain ⟨k7, k8, k9⟩ := box_cells (Below.refl _ _) b2
  have eg : ∀ args w, (callFunc 45 args).run Try.prog w = .ok (.enter 45 args) w := enters_of Try.func45 (by kernel_rfl) rfl
  have hcall : Calls Try.prog 44 #[.int .i64 l.length, .func (.func 45) #[] #[.pointer (some ⟨w.heap.size, 0, none⟩), .pointer (some ⟨w.heap.size + 1, 0, none⟩)]] W fun e w' => e = .returned (.int .i64 (placeS l t : Nat)) ∧ ∃ q os, w' = grow (W.drewN q) os := by
    have hS := Any.sort_Search searchS 45 #[.pointer (some ⟨w.heap.size, 0, none⟩), .pointer (some ⟨w.heap.size + 1, 0, none⟩)] l.length (fun i => decide (t ≤ ((l.map (·.1)).toArray[i]!))) W eg (by omega)
      (fun m os i hi => by
        obtain ⟨g, o, rfl, hg, hc⟩ := (hR.below hbW).at_ hi
        have hy : (l.map (·.1)).toArray[i]! = l[i].1 := by rw [getElem!_pos _ i (by simpa using hi)]; simp
        simp only [hy]
        have := serPlace_closure w.heap.size (w.heap.size + 1) S g o c l.length t l[i].1 i (grow (W.drewN m) os) hi (cell_gd (k4 0) k6 m os) (cell_gd (k7 0) k9 m os) (cell_gd (k1 0) k3 m os) (cell_gd (hc 0 _ rfl) hg m os)
        exact this.mono fun _ _ ⟨he, q, hq⟩ => ⟨he, q, #[], by rw [hq, grow_empty]⟩)
      (fun a b hab hb h => by
        have ha : a < l.length := by omega
        have e1 : (l.map (·.1)).toArray[a]! = l[a].1 := by rw [getElem!_pos _ a (by simpa using ha)]; simp
        have e2 : (l.map (·.1)).toArray[b]! = l[b].1 := by rw [getElem!_pos _ b (by simpa using hb)]; simp
        simp only [e1, e2, decide_eq_true_eq] at h ⊢
        rcases Nat.lt_or_ge a b with hlt | hge
        · have := List.pairwise_iff_getElem.1 hr a b ha hb hlt
          omega
        · obtain rfl : a = b := by omega
          exact h)
    have hlen : l.length = (l.map (·.1)).toArray.size := by simp
    rw [show (List.range l.length).countP (fun i => !decide (t ≤ (l.map (·.1)).toArray[i]!)) = placeS l t from by
      rw [hlen, Lib.countP_range (l.map (·.1)).toArray (fun y => !decide (t ≤ y))]
      simp only [placeS, List.countP_map]
      rfl] at hS
    exact hS
  have HC := Lib.hid hcall
  have hc0 := k1 0
  have hc1 := k4 0
  simp only [List.getElem?_toArray, List.getElem?_cons_zero] at hc0 hc1
  clear hcall k1 k4 k7 hS1 hr hrow hR eg
  go_enter Try.func35, Try.ntmps35
  have q0 : w.cell? ⟨S, 0, none⟩ = some (.slice A l.length c) := by simp only [World.cell?, hS]; rfl
  go_wp2_with (go_at_call 44; rw [← hW]; refine HC.out.mono ?_; rintro e w1 ⟨rfl, q1, os1, rfl⟩)
  go_ret
  exact ⟨rfl, by rw [← hW]; exact bthen hbW (below_gd W _ _)⟩
end

end Go.Proofs.Ytfegielnmdppgaa
