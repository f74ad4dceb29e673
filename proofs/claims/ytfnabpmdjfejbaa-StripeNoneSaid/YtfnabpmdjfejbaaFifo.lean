/- fifo's Queue of keys: what it is in memory; Put, Len, turn, Get. -/
import Derived.Test.YtfnabpmdjfejbaaKeysRead
import Derived.Test.YtfnabpmdjfejbaaKeyOwn
import Derived.Test.YtfnabpmdjfejbaaShRev
import Derived.Test.YtfnabpmdjfejbaaRowK
import Derived.Deep.AppendLies
import Derived.Deep.RegionLaw
import Derived.BigRegion
namespace Go.Proofs.Ytfnabpmdjfejbaa
set_option linter.unusedSimpArgs false
set_option linter.unusedVariables false
open Go.RowKit Go.Lib

/-- What may have turned: block g from o to o + n, the blocks of R, and what is new. -/
structure Moves (w w' : World) (g o n : Nat) (R : Nat → Prop) : Prop where
  os : w'.os = w.os
  tape : w'.tape = w.tape
  output : w'.output = w.output
  size : w.heap.size ≤ w'.heap.size
  block : ∀ k, k < w.heap.size → k ≠ g → ¬ R k → w'.heap[k]? = w.heap[k]?
  cell : ∀ j, (j < o ∨ o + n ≤ j) → w'.cell? ⟨g, j, none⟩ = w.cell? ⟨g, j, none⟩
  frozen : ∀ j, w'.frozen? ⟨g, j, none⟩ = w.frozen? ⟨g, j, none⟩

theorem Moves.refl (w : World) (g o n : Nat) (R : Nat → Prop) : Moves w w g o n R := ⟨rfl, rfl, rfl, Nat.le_refl _, fun _ _ _ _ => rfl, fun _ _ => rfl, fun _ => rfl⟩
theorem Moves.trans {w a b : World} {g o n : Nat} {R R' : Nat → Prop} (h : Moves w a g o n R) (k : Moves a b g o n R') (hR : ∀ r, R' r → R r ∨ w.heap.size ≤ r) : Moves w b g o n R :=
  ⟨k.os.trans h.os, k.tape.trans h.tape, k.output.trans h.output, Nat.le_trans h.size k.size,
    fun i hi hg hr => (k.block i (Nat.lt_of_lt_of_le hi h.size) hg (fun hr' => (hR i hr').elim hr (fun h' => by omega))).trans (h.block i hi hg hr),
    fun j hj => (k.cell j hj).trans (h.cell j hj), fun j => (k.frozen j).trans (h.frozen j)⟩
theorem Moves.of_below {w w' : World} {g o n : Nat} {R : Nat → Prop} (h : Below w.heap.size w w') (hg : g < w.heap.size) : Moves w w' g o n R :=
  ⟨h.os, h.tape, h.output, h.size, fun k hk _ _ => h.block k hk, fun j _ => h.cell (p := ⟨g, j, none⟩) hg, fun j => h.frozen (p := ⟨g, j, none⟩) hg⟩
theorem Moves.setCell {w : World} {g o n i : Nat} {R : Nat → Prop} (v : Value) (hi : o ≤ i) (hi' : i < o + n) : Moves w (w.setCell ⟨g, i, none⟩ v) g o n R :=
  ⟨rfl, rfl, rfl, by simp [World.setCell], fun k _ hk _ => Below.heap_setCell _ _ _ _ hk, fun j hj => World.cell?_setCell_other w _ _ v (fun e => by injection e with _ e _; omega), fun j => World.frozen?_setCell _ _ _ _⟩
theorem Moves.grown {w w' : World} {g o n : Nat} {R : Nat → Prop} {row : Option Nat} (h : w.grownBy w' row) (hr : ∀ k, row = some k → R k) (hg : row ≠ some g) (hlt : g < w.heap.size) : Moves w w' g o n R :=
  ⟨h.os, h.tape, h.output, h.size, fun k hk _ hnr => h.block k hk (fun e => hnr (hr k e.symm)), fun j _ => h.cell_far ⟨g, j, none⟩ hlt (Ne.symm hg), fun j => h.frozen_far ⟨g, j, none⟩ hlt (Ne.symm hg)⟩
theorem Moves.set {w a : World} {g o n : Nat} {R : Nat → Prop} (h : Moves w a g o n R) {i : Nat} (v : Value) (hi : o ≤ i) (hi' : i < o + n) : Moves w (a.setCell ⟨g, i, none⟩ v) g o n R :=
  h.trans (R' := fun _ => False) (Moves.setCell v hi hi') (fun _ hr => hr.elim)
theorem Moves.other {w a : World} {g o n : Nat} {R : Nat → Prop} (h : Moves w a g o n R) {k j : Nat} (v : Value) (hk : k ≠ g) (hR : R k ∨ w.heap.size ≤ k) : Moves w (a.setCell ⟨k, j, none⟩ v) g o n R :=
  ⟨h.os, h.tape, h.output, by have := h.size; simp [World.setCell]; omega,
    fun i hi hg hr => (Below.heap_setCell _ _ _ _ (fun e => by have e' : i = k := e; subst e'; exact hR.elim hr (fun h' => by omega))).trans (h.block i hi hg hr),
    fun i hi => (World.cell?_setCell_other _ _ _ _ (fun e => by injection e with e _ _; exact hk e)).trans (h.cell i hi), fun i => (World.frozen?_setCell _ _ _ _).trans (h.frozen i)⟩
theorem Moves.drewE {w a : World} {g o n : Nat} {R : Nat → Prop} (h : Moves w a g o n R) : Moves w a.drew g o n R := ⟨h.os, h.tape, h.output, h.size, h.block, h.cell, h.frozen⟩
theorem Moves.allocE {w a : World} {g o n : Nat} {R : Nat → Prop} (h : Moves w a g o n R) (x : Obj) (hg : g < w.heap.size) : Moves w (a.alloc x) g o n R :=
  h.trans (R' := fun _ => False) (Moves.of_below (balloc (Below.refl _ _) _) (Nat.lt_of_lt_of_le hg h.size)) (fun _ hr => hr.elim)
theorem Moves.mono {w w' : World} {g o n : Nat} {R R' : Nat → Prop} (h : Moves w w' g o n R) (hR : ∀ r, R r → R' r) : Moves w w' g o n R' :=
  ⟨h.os, h.tape, h.output, h.size, fun k hk hg hr => h.block k hk hg (fun h' => hr (hR k h')), h.cell, h.frozen⟩
theorem Moves.below {w w' : World} {g o n B : Nat} {R : Nat → Prop} (h : Moves w w' g o n R) (hg : B ≤ g) (hR : ∀ r, R r → B ≤ r) (hB : B ≤ w.heap.size) : Below B w w' :=
  ⟨h.os, h.tape, h.output, h.size, fun k hk => h.block k (by omega) (by omega) (fun hr => by have := hR k hr; omega)⟩

/-- A row of keys of one's own. -/
def OwnK (w : World) (v : Value) (l : List Ky) : Prop := w.ownsRow 0 32 2 v l.length (cellsOfRow keyC l)
theorem keyC_len (x : Ky) : (keyC x).length = 2 := rfl
theorem keyC_one (x : Ky) : ∀ u ∈ keyC x, u.oneCell' = true := by
  intro u hu
  simp only [keyC, List.mem_cons, List.not_mem_nil, or_false] at hu
  rcases hu with rfl | rfl <;> rfl
theorem OwnK.form {w : World} {v : Value} {l : List Ky} (h : OwnK w v l) : ∃ A c, v = .slice A l.length c := own_form h
theorem OwnK.row {w : World} {v : Value} {l : List Ky} (h : OwnK w v l) : RowIn 2 keyC w v l := RowIn.own keyC_len h
theorem OwnK.nil (w : World) : OwnK w (.slice none 0 0) [] := ⟨rfl, .inl ⟨rfl, rfl⟩⟩
theorem OwnK.lt {w : World} {v : Value} {l : List Ky} (h : OwnK w v l) {r : Nat} (hr : v.ownBlock = some r) : r < w.heap.size := (World.ownsRow.lt h r hr).2
theorem own_block {w w' : World} {base : Nat} {e : TypeId} {size n : Nat} {v : Value} {xs : List Value} (h : w.ownsRow base e size v n xs) (hb : ∀ r, v.ownBlock = some r → w'.heap[r]? = w.heap[r]?) : w'.ownsRow base e size v n xs := by
  refine ⟨h.1, ?_⟩
  rcases h.2 with hn | ⟨g, cap, cur, hv, h1, h2, rest⟩
  · exact .inl hn
  · exact .inr ⟨g, cap, cur, hv, h1, (hb g (by rw [hv]; rfl)).trans h2, rest⟩
theorem OwnK.block {w w' : World} {v : Value} {l : List Ky} (h : OwnK w v l) (hb : ∀ r, v.ownBlock = some r → w'.heap[r]? = w.heap[r]?) : OwnK w' v l := own_block h hb

/-- A queue of keys at a place. -/
def FIn (w : World) (g o : Nat) (vf vb : Value) (f b : List Ky) : Prop :=
  w.cell? ⟨g, o, none⟩ = some vf ∧ w.cell? ⟨g, o + 1, none⟩ = some vb ∧ w.frozen? ⟨g, o, none⟩ = false ∧ w.frozen? ⟨g, o + 1, none⟩ = false ∧
  OwnK w vf f ∧ OwnK w vb b ∧ vf.ownBlock ≠ some g ∧ vb.ownBlock ≠ some g ∧ (∀ r, vf.ownBlock = some r → vb.ownBlock ≠ some r)

theorem FIn.lt {w : World} {g o : Nat} {vf vb : Value} {f b : List Ky} (h : FIn w g o vf vb f b) : g < w.heap.size := World.block_lt_of_cell? w ⟨g, o, none⟩ h.1
theorem FIn.keep {w w' : World} {g o : Nat} {vf vb : Value} {f b : List Ky} (h : FIn w g o vf vb f b) (hc : ∀ j, w'.cell? ⟨g, j, none⟩ = w.cell? ⟨g, j, none⟩) (hf : ∀ j, w'.frozen? ⟨g, j, none⟩ = w.frozen? ⟨g, j, none⟩)
    (hb : ∀ r, vf.ownBlock = some r ∨ vb.ownBlock = some r → w'.heap[r]? = w.heap[r]?) : FIn w' g o vf vb f b := by
  obtain ⟨h1, h2, h3, h4, h5, h6, h7⟩ := h
  exact ⟨(hc _).trans h1, (hc _).trans h2, (hf _).trans h3, (hf _).trans h4, h5.block fun r hr => hb r (.inl hr), h6.block fun r hr => hb r (.inr hr), h7⟩
theorem FIn.below {w w' : World} {g o : Nat} {vf vb : Value} {f b : List Ky} (h : FIn w g o vf vb f b) (hb : Below w.heap.size w w') : FIn w' g o vf vb f b :=
  h.keep (fun j => hb.cell (p := ⟨g, j, none⟩) h.lt) (fun j => hb.frozen (p := ⟨g, j, none⟩) h.lt) (fun r hr => hb.block r (by
    obtain ⟨_, _, _, _, h5, h6, _⟩ := h
    exact hr.elim h5.lt h6.lt))

def PutSays (w : World) (g o : Nat) (vf vb : Value) (f b : List Ky) (x : Ky) (e : Ending) (w' : World) : Prop :=
  ∃ vb', e = .returned (.bool true) ∧ FIn w' g o vf vb' f (b ++ [x]) ∧ (vb'.ownBlock = vb.ownBlock ∨ ∃ k, vb'.ownBlock = some k ∧ w.heap.size ≤ k) ∧ Moves w w' g o 2 (fun k => vb.ownBlock = some k)

theorem put_end {w w1 w2 : World} {g o gb cap : Nat} {vf vb : Value} {f b : List Ky} {x : Ky} (h : FIn w g o vf vb f b) (hw1 : Below w.heap.size w w1)
    (hown : w2.ownsRow 0 32 2 (.slice (some ⟨gb, 0, none⟩) (b.length + 1) cap) (b.length + 1) (cellsOfRow keyC b ++ keyC x)) (hg : w1.grownBy w2 vb.ownBlock) (hl : vb.ownBlock = some gb ∨ w.heap.size ≤ gb) :
    PutSays w g o vf vb f b x (.returned (.bool true)) (w2.setCell ⟨g, o + 1, none⟩ (.slice (some ⟨gb, 0, none⟩) (b.length + 1) cap)) := by
  have HF0 := h
  obtain ⟨h1, h2, h3, h4, h5, h6, h7, h8, h9⟩ := h.below hw1
  have hlt := (h.below hw1).lt
  have hs := hw1.size
  have hlt0 := h.lt
  have hgb : gb ≠ g := by
    rcases hl with h | h
    · intro e; rw [h, e] at h8; exact h8 rfl
    · omega
  have hgs := hg.size
  have hm2 : Moves w w2 g o 2 (fun k => vb.ownBlock = some k) := (Moves.of_below hw1 hlt0).trans (Moves.grown hg (fun k e => e) (fun e => h8 e) hlt) (fun r hr => .inl hr)
  refine ⟨.slice (some ⟨gb, 0, none⟩) (b.length + 1) cap, rfl, ⟨?_, ?_, ?_, ?_, ?_, ?_, h7, ?_, ?_⟩, ?_, ?_⟩
  · rw [World.cell?_setCell_other _ _ _ _ (fun e => by injection e with _ e _; omega), hg.cell_far ⟨g, o, none⟩ hlt (Ne.symm h8), h1]
  · exact World.cell?_setCell_same' _ _ _ (by rw [hg.cell_far ⟨g, o + 1, none⟩ hlt (Ne.symm h8), h2]; rfl)
  · rw [World.frozen?_setCell, hg.frozen_far ⟨g, o, none⟩ hlt (Ne.symm h8), h3]
  · rw [World.frozen?_setCell, hg.frozen_far ⟨g, o + 1, none⟩ hlt (Ne.symm h8), h4]
  · refine h5.block fun r hr => ?_
    have hrg : r ≠ g := fun e => h7 (e ▸ hr)
    exact (Below.heap_setCell _ _ _ _ hrg).trans (hg.block r (h5.lt hr) (fun e => h9 r hr e.symm))
  · have e1 : (b ++ [x]).length = b.length + 1 := by simp
    have e2 : cellsOfRow keyC (b ++ [x]) = cellsOfRow keyC b ++ keyC x := by rw [cellsOfRow_append]; simp [cellsOfRow]
    unfold OwnK
    rw [e1, e2]
    refine own_block hown fun r hr => ?_
    obtain rfl : gb = r := by simpa [Value.ownBlock] using hr
    exact Below.heap_setCell _ _ _ _ hgb
  · intro e; exact hgb (by simpa [Value.ownBlock] using e)
  · intro r hr e
    obtain rfl : gb = r := by simpa [Value.ownBlock] using e
    rcases hl with h | h
    · exact h9 _ hr h
    · have := (HF0.2.2.2.2.1).lt hr; omega
  · rcases hl with h | h
    · exact .inl h.symm
    · exact .inr ⟨gb, rfl, by omega⟩
  · exact hm2.trans (R' := fun _ => False) (Moves.setCell _ (by omega) (by omega)) (fun r hr => hr.elim)

theorem news_new (w : World) (cs : Array Value) (T B : Nat) (hB : w.heap.size = B) : ∀ j u, cs.toList[j]? = some u → (w.alloc (.cells cs T)).cell? ((⟨B, 0, none⟩ : Addr).add j) = some u := by
  subst hB
  exact World.news_of_block (heap_alloc_new _ _)

theorem put_step {w w1 w2 : World} {g o : Nat} {vf vb : Value} {f b : List Ky} (h : FIn w g o vf vb f b) (hw1 : Below w.heap.size w w1) (hg : w1.grownBy w2 vb.ownBlock) :
    w2.cell? ⟨g, o + 1, none⟩ = some vb ∧ w2.frozen? ⟨g, o + 1, none⟩ = false := by
  have hlt := (h.below hw1).lt
  obtain ⟨_, h2, _, h4, _, _, _, h8, _⟩ := h.below hw1
  exact ⟨(hg.cell_far ⟨g, o + 1, none⟩ hlt (Ne.symm h8)).trans h2, (hg.frozen_far ⟨g, o + 1, none⟩ hlt (Ne.symm h8)).trans h4⟩

set_option maxRecDepth 100000 in
set_option maxHeartbeats 2000000 in
theorem put_any (g o : Nat) (vf vb : Value) (f b : List Ky) (x : Ky) (w : World) (h : FIn w g o vf vb f b) (hl : b.length < 1000000) :
    Calls Try.prog 47 #[.pointer (some ⟨g, o, none⟩), .agg #[.int .u64 x.1, .int .u64 x.2]] w (PutSays w g o vf vb f b x) := by
  obtain ⟨i0, hi0, hz0, hz1, hz2⟩ := info_parts key_info
  have hlt := h.lt
  have h2 := h.2.1
  obtain ⟨A, c, rfl⟩ := h.2.2.2.2.2.1.form
  have HF := Lib.hid h
  have hne : w.heap.size ≠ g := by omega
  clear h
  go_enter Try.func47, Try.ntmps47
  go_wp2_with fail
  go_region_law ((refine step_append_lies _ (by rfl) (.tmp 11) (.tmp 13) _ (by rfl) 0 32 i0 _ 2 16 Try.underlying24 hi0 hz0 hz1 hz2 rfl (by decide) _ _ _ (by rfl) (own_below HF.out.2.2.2.2.2.1 (by repeat (first | exact Below.refl _ _ | refine balloc ?_ _ | refine Below.drew ?_))) ⟨w.heap.size + 1, 0, none⟩ 1 1 (keyC x) (by rfl) (by rfl) (news_new _ _ _ _ (by simp)) (keyC_one x) (by omega) (by simp only [maxLen]; omega) (by omega) (by omega) (w.heap.size + 1 + 1) (by simp) ?_; intro gb cap w2 hown hgrow hat hglt
                  obtain ⟨hc2, hf2⟩ := put_step HF.out (by repeat (first | exact Below.refl _ _ | refine balloc ?_ _ | refine Below.drew ?_)) hgrow))
  all_goals go_wp2
  all_goals go_ret
  all_goals exact put_end (w1 := _) HF.out (by repeat (first | exact Below.refl _ _ | refine balloc ?_ _ | refine Below.drew ?_)) hown hgrow (hat.imp id (fun e => by omega))

set_option maxRecDepth 100000 in
set_option maxHeartbeats 2000000 in
theorem len_any (g o : Nat) (vf vb : Value) (f b : List Ky) (w : World) (h : FIn w g o vf vb f b) (h1 : f.length < 1000000) (h2 : b.length < 1000000) :
    Calls Try.prog 55 #[.pointer (some ⟨g, o, none⟩)] w fun e w' => e = .returned (.int .i64 ((f.length + b.length : Nat) : Int)) ∧ Below w.heap.size w w' := by
  obtain ⟨c1, c2, _, _, h5, h6, _⟩ := h
  obtain ⟨A, c, rfl⟩ := h5.form
  obtain ⟨B, d, rfl⟩ := h6.form
  clear h5 h6
  go_enter Try.func55, Try.ntmps55
  go_wp2_with fail
  go_quiet (fail)
  go_wp2
  go_ret
  exact ⟨ret_int (by omega), below_drewN (Below.refl _ _) _⟩

set_option maxRecDepth 100000 in
set_option maxHeartbeats 2000000 in
theorem len_none (w : World) :
    Calls Try.prog 55 #[.pointer none] w fun e w' => e = .returned (.int .i64 0) ∧ Below w.heap.size w w' := by
  go_enter Try.func55, Try.ntmps55
  go_wp2
  go_ret
  exact ⟨rfl, Below.refl _ _⟩

set_option maxRecDepth 100000 in
set_option maxHeartbeats 2000000 in
theorem turn_stay (g o : Nat) (vf vb : Value) (f b : List Ky) (w : World) (h : FIn w g o vf vb f b) (hf : 0 < f.length) (h1 : f.length < 1000000) :
    Calls Try.prog 88 #[.pointer (some ⟨g, o, none⟩)] w fun e w' => e = .returned (.tuple #[]) ∧ w = w' := by
  obtain ⟨c1, c2, _, _, h5, h6, _⟩ := h
  obtain ⟨A, c, rfl⟩ := h5.form
  clear h5 h6
  have q : ((f.length : Int) == 0) = false := by rw [beq_eq_false_iff_ne]; omega
  go_enter Try.func88, Try.ntmps88
  go_wp2
  go_end0
  exact ⟨rfl, rfl⟩

def TurnSays (w : World) (g o : Nat) (vb : Value) (b : List Ky) (e : Ending) (w' : World) : Prop :=
  e = .returned (.tuple #[]) ∧ FIn w' g o vb (.slice none 0 0) b.reverse [] ∧ Moves w w' g o 2 (fun k => vb.ownBlock = some k)

set_option maxRecDepth 100000 in
set_option maxHeartbeats 2000000 in
theorem turn_flip (g o : Nat) (vf vb : Value) (b : List Ky) (w : World) (h : FIn w g o vf vb [] b) (hb : 0 < b.length) (h1 : b.length < 1000000) :
    Calls Try.prog 88 #[.pointer (some ⟨g, o, none⟩)] w (TurnSays w g o vb b) := by
  have hlt := h.lt
  obtain ⟨c1, c2, f1, f2, h5, h6, h7, h8, h9⟩ := h
  obtain ⟨A, c, hv⟩ := h5.form
  rcases Go.Joins.ownsRow_forms h6 with ⟨_, h0⟩ | ⟨gb, cap, rfl⟩
  · omega
  have hgb : gb ≠ g := fun e => h8 (by rw [e]; rfl)
  have hown1 : OwnK ((w.setCell ⟨g, o, none⟩ (.slice (some ⟨gb, 0, none⟩) b.length cap)).setCell ⟨g, o + 1, none⟩ (.slice none 0 0)) (.slice (some ⟨gb, 0, none⟩) b.length cap) b :=
    h6.block fun r hr => by
      obtain rfl : gb = r := by simpa [Value.ownBlock] using hr
      rw [Below.heap_setCell _ _ _ _ hgb, Below.heap_setCell _ _ _ _ hgb]
  have hc1 : ((w.setCell ⟨g, o, none⟩ (.slice (some ⟨gb, 0, none⟩) b.length cap)).setCell ⟨g, o + 1, none⟩ (.slice none 0 0)).cell? ⟨g, o, none⟩ = some (.slice (some ⟨gb, 0, none⟩) b.length cap) := by
    rw [World.cell?_setCell_other _ _ _ _ (fun e => by injection e with _ e _; omega)]
    exact World.cell?_setCell_same' _ _ _ (by rw [c1]; rfl)
  have hc2 : ((w.setCell ⟨g, o, none⟩ (.slice (some ⟨gb, 0, none⟩) b.length cap)).setCell ⟨g, o + 1, none⟩ (.slice none 0 0)).cell? ⟨g, o + 1, none⟩ = some (.slice none 0 0) :=
    World.cell?_setCell_same' _ _ _ (by rw [World.cell?_setCell_other _ _ _ _ (fun e => by injection e with _ e _; omega), c2]; rfl)
  have hf1 : ∀ j, ((w.setCell ⟨g, o, none⟩ (.slice (some ⟨gb, 0, none⟩) b.length cap)).setCell ⟨g, o + 1, none⟩ (.slice none 0 0)).frozen? ⟨g, j, none⟩ = w.frozen? ⟨g, j, none⟩ := fun j => by rw [World.frozen?_setCell, World.frozen?_setCell]
  have hm1 : Moves w ((w.setCell ⟨g, o, none⟩ (.slice (some ⟨gb, 0, none⟩) b.length cap)).setCell ⟨g, o + 1, none⟩ (.slice none 0 0)) g o 2 (fun k => (Value.slice (some ⟨gb, 0, none⟩) b.length cap).ownBlock = some k) :=
    (Moves.setCell _ (by omega) (by omega)).trans (R' := fun _ => False) (Moves.setCell _ (by omega) (by omega)) (fun r hr => hr.elim)
  have hr := Lib.hid (show Calls Try.prog 120 #[.slice (some ⟨gb, 0, none⟩) b.toArray.size cap] ((w.setCell ⟨g, o, none⟩ (.slice (some ⟨gb, 0, none⟩) b.length cap)).setCell ⟨g, o + 1, none⟩ (.slice none 0 0)) (fun e w' => e = .returned (.tuple #[]) ∧ ∃ n, w' = Go.Sort.putRowK keyC 2 (Sort.ahead _ n) gb 0 b.toArray.reverse) from
    AnyQ.slices_Reverse revK 2 Try.isAgg32 Try.sizeOf32 keyC keyC_len keyC_one gb 0 cap b.toArray _ (holdsK_own keyC_len (by decide) hown1) (by simp; omega))
  have HX := Lib.hid (And.intro hown1 (And.intro hc1 (And.intro hc2 (And.intro hf1 hm1))))
  have HF := Lib.hid (And.intro f1 f2)
  have q1 : b.toArray.size = b.length := by simp
  rw [q1] at hr
  subst hv
  clear hown1 hc1 hc2 hf1 hm1 h5 h6 h7 h8 h9 q1
  go_enter Try.func88, Try.ntmps88
  go_wp2_with (go_at_call 120; refine hr.out.mono ?_; rintro e w2 ⟨rfl, n, hw2⟩; have HW := Lib.hid hw2; clear hw2)
  go_end0
  obtain ⟨hown1, hc1, hc2, hf1, hm1⟩ := HX.out
  have hw2 := HW.out
  obtain ⟨k1, k2⟩ := own_putRowK (k := n) (m := b.reverse) keyC_len (by decide) hown1 (by simp) #[]
  rw [Sort.grow_empty] at k1 k2
  have hw3 : w2 = Go.Sort.putRowK keyC 2 (Sort.ahead ((w.setCell ⟨g, o, none⟩ (.slice (some ⟨gb, 0, none⟩) b.length cap)).setCell ⟨g, o + 1, none⟩ (.slice none 0 0)) n) gb 0 b.reverse.toArray := by rw [hw2]; simp
  rw [← hw3] at k1 k2
  rw [show b.length = b.reverse.length by simp] at hc1
  have hlt1 : g < ((w.setCell ⟨g, o, none⟩ (.slice (some ⟨gb, 0, none⟩) b.length cap)).setCell ⟨g, o + 1, none⟩ (.slice none 0 0)).heap.size := Nat.lt_of_lt_of_le hlt hm1.size
  have hne : some g ≠ some gb := fun e => hgb (by injection e with e; exact e.symm)
  refine ⟨rfl, ⟨?_, ?_, ?_, ?_, ?_, OwnK.nil _, ?_, ?_, ?_⟩, hm1.trans (Moves.grown k2 (fun k e => by injection e with e; rw [e]; rfl) (fun e => hne e.symm) hlt1) (fun r hr => .inl hr)⟩
  · rw [show b.length = b.reverse.length by simp]
    exact (k2.cell_far ⟨g, o, none⟩ hlt1 hne).trans (by rw [show b.reverse.length = b.length by simp] at hc1 ⊢; exact hc1)
  · exact (k2.cell_far ⟨g, o + 1, none⟩ hlt1 hne).trans hc2
  · exact (k2.frozen_far ⟨g, o, none⟩ hlt1 hne).trans ((hf1 _).trans HF.out.1)
  · exact (k2.frozen_far ⟨g, o + 1, none⟩ hlt1 hne).trans ((hf1 _).trans HF.out.2)
  · unfold OwnK
    rw [show b.length = b.reverse.length by simp]
    exact k1
  · intro e; exact hgb (by simpa [Value.ownBlock] using e)
  · intro e; cases e
  · intro r _ e; cases e

def turnL (f b : List Ky) : List Ky × List Ky := if f = [] then (b.reverse, []) else (f, b)
theorem turnL_line (f b : List Ky) : (turnL f b).1.reverse ++ (turnL f b).2 = f.reverse ++ b := by
  unfold turnL
  split
  · rename_i h; subst h; simp
  · rfl

def TurnedSays (w : World) (g o : Nat) (vf vb : Value) (f b : List Ky) (e : Ending) (w' : World) : Prop :=
  ∃ vf' vb', e = .returned (.tuple #[]) ∧ FIn w' g o vf' vb' (turnL f b).1 (turnL f b).2 ∧ (∀ r, vf'.ownBlock = some r ∨ vb'.ownBlock = some r → vf.ownBlock = some r ∨ vb.ownBlock = some r) ∧ Moves w w' g o 2 (fun k => vb.ownBlock = some k)

theorem turn_any (g o : Nat) (vf vb : Value) (f b : List Ky) (w : World) (h : FIn w g o vf vb f b) (hn : 0 < f.length + b.length) (h1 : f.length + b.length < 1000000) :
    Calls Try.prog 88 #[.pointer (some ⟨g, o, none⟩)] w (TurnedSays w g o vf vb f b) := by
  by_cases hf : f = []
  · subst hf
    refine (turn_flip g o vf vb b w h (by simpa using hn) (by simpa using h1)).mono ?_
    rintro e w' ⟨rfl, h2, h3⟩
    exact ⟨_, _, rfl, h2, fun r hr => .inr (hr.elim id (fun e => by cases e)), h3⟩
  · refine (turn_stay g o vf vb f b w h (List.length_pos_iff.2 hf) (by omega)).mono ?_
    rintro e w' ⟨rfl, rfl⟩
    exact ⟨vf, vb, rfl, by rw [turnL, if_neg hf]; exact h, fun r hr => hr, Moves.refl _ _ _ _ _⟩

def FGotSays (w : World) (g o : Nat) (vf vb : Value) (f b : List Ky) (e : Ending) (w' : World) : Prop :=
  ∃ vf' vb' x f', (turnL f b).1 = f' ++ [x] ∧ e = .returned (.tuple #[.agg #[.int .u64 x.1, .int .u64 x.2], .bool true]) ∧ FIn w' g o vf' vb' f' (turnL f b).2 ∧ (∀ r, vf'.ownBlock = some r ∨ vb'.ownBlock = some r → vf.ownBlock = some r ∨ vb.ownBlock = some r) ∧ Moves w w' g o 2 (fun k => vb.ownBlock = some k)

set_option maxRecDepth 100000 in
set_option maxHeartbeats 2000000 in
theorem fget_none (g o : Nat) (vf vb : Value) (w : World) (h : FIn w g o vf vb [] []) :
    Calls Try.prog 46 #[.pointer (some ⟨g, o, none⟩)] w fun e w' => e = .returned (.tuple #[.agg #[.int .u64 0, .int .u64 0], .bool false]) ∧ Below w.heap.size w w' := by
  have HF := Lib.hid h
  go_enter Try.func46, Try.ntmps46
  go_wp2_with (go_at_call 55; refine (len_any g o vf vb [] [] _ (HF.out.below (balloc (balloc (Below.refl _ _) _) _)) (by simp) (by simp)).mono ?_; rintro e w1 ⟨rfl, hb1⟩; obtain ⟨k1, k2, k3⟩ := box_cells hb1 (box_old _ _ _); obtain ⟨k4, k5, k6⟩ := box_cells hb1 (box_new _ _ _))
  have hb2 : Below w.heap.size w w1 := bthen (balloc (balloc (Below.refl _ _) _) _) hb1
  exact bodyPost_ret (v := .tuple #[.agg #[.int .u64 0, .int .u64 0], .bool false]) (by simp [results, Try.results46, go_sem, k1]) rfl ⟨rfl, (hb2.setCell (by simp) _).setCell (by simp) _⟩

theorem fgot_end {w w2 w3 : World} {g o gf cap : Nat} {vf vb vb2 : Value} {f b f' : List Ky} {x : Ky} (h : FIn w g o vf vb f b) (hf1 : (turnL f b).1 = f' ++ [x]) (hw : Moves w w2 g o 2 (fun k => vb.ownBlock = some k))
    (hfin : FIn w2 g o (.slice (some ⟨gf, 0, none⟩) (f'.length + 1) cap) vb2 (f' ++ [x]) (turnL f b).2) (hbl : ∀ r, (Value.slice (some ⟨gf, 0, none⟩) (f'.length + 1) cap).ownBlock = some r ∨ vb2.ownBlock = some r → vf.ownBlock = some r ∨ vb.ownBlock = some r)
    (hM : Moves w2 w3 g o 1 (fun k => w.heap.size ≤ k)) (hc : w3.cell? ⟨g, o, none⟩ = some (.slice (some ⟨gf, 0, none⟩) f'.length cap)) :
    FGotSays w g o vf vb f b (.returned (.tuple #[.agg #[.int .u64 x.1, .int .u64 x.2], .bool true])) w3 := by
  have hlow : ∀ r, (Value.slice (some ⟨gf, 0, none⟩) (f'.length + 1) cap).ownBlock = some r ∨ vb2.ownBlock = some r → r < w.heap.size := fun r hr => (hbl r hr).elim h.2.2.2.2.1.lt h.2.2.2.2.2.1.lt
  have hs := hw.size
  obtain ⟨h1, h2, h3, h4, h5, h6, h7, h8, h9⟩ := hfin
  have hgf : gf ≠ g := fun e => h7 (by rw [e]; rfl)
  refine ⟨_, vb2, x, f', hf1, rfl, ⟨hc, (hM.cell _ (.inr (by omega))).trans h2, (hM.frozen _).trans h3, (hM.frozen _).trans h4, ?_, h6.block fun r hr => hM.block r (h6.lt hr) (fun e => h8 (e ▸ hr)) (by have := hlow r (.inr hr); omega), h7, h8, h9⟩, hbl, ?_⟩
  · have hx : OwnK w3 (.slice (some ⟨gf, 0, none⟩) (f'.length + 1) cap) (f' ++ [x]) := h5.block fun r hr => by
      have := hlow r (.inl hr)
      obtain rfl : gf = r := by simpa [Value.ownBlock] using hr
      exact hM.block gf (by omega) hgf (by omega)
    unfold OwnK at hx ⊢
    rw [List.length_append, List.length_singleton, cellsOfRow_append] at hx
    rcases hx.2 with ⟨hv, _⟩ | ⟨g', cap', cur, hv, hb, hg, hc1, hc2, hc3, hc4⟩
    · cases hv
    · injection hv with e1 e2 e3
      injection e1 with e1
      injection e1 with e1
      subst e1 e3
      refine ⟨cellsOfRow_len keyC_len f', .inr ⟨gf, cap, cur, rfl, hb, hg, by omega, hc2, hc3, ?_⟩⟩
      have : (cur.toList.take ((f'.length + 1) * 2)).take (f'.length * 2) = cellsOfRow keyC f' := by
        rw [hc4, List.take_append_of_le_length (by rw [cellsOfRow_len keyC_len]; exact Nat.le_refl _), List.take_of_length_le (by rw [cellsOfRow_len keyC_len]; exact Nat.le_refl _)]
      rwa [List.take_take, Nat.min_eq_left (by omega)] at this
  · refine ⟨hM.os.trans hw.os, hM.tape.trans hw.tape, hM.output.trans hw.output, Nat.le_trans hw.size hM.size, fun k hk hg hr => (hM.block k (by omega) hg (by omega)).trans (hw.block k hk hg hr), fun j hj => (hM.cell j (by omega)).trans (hw.cell j hj), fun j => (hM.frozen j).trans (hw.frozen j)⟩

set_option maxRecDepth 100000 in
set_option maxHeartbeats 4000000 in
theorem fget_some (g o : Nat) (vf vb : Value) (f b : List Ky) (w : World) (h : FIn w g o vf vb f b) (hn : 0 < f.length + b.length) (h1 : f.length + b.length < 1000000) :
    Calls Try.prog 46 #[.pointer (some ⟨g, o, none⟩)] w (FGotSays w g o vf vb f b) := by
  have HF := Lib.hid h
  have hlt := h.lt
  have q0 : (((f.length + b.length : Nat) : Int) == 0) = false := by rw [beq_eq_false_iff_ne]; omega
  have hlen1 : 0 < (turnL f b).1.length ∧ (turnL f b).1.length < 1000000 := by
    unfold turnL
    split
    · rename_i h; subst h; simp at hn h1 ⊢; omega
    · rename_i h; have := List.length_pos_iff.2 h; simp; omega
  obtain ⟨f', x, hf'⟩ : ∃ f' x, (turnL f b).1 = f' ++ [x] := ⟨_, _, (List.dropLast_concat_getLast (List.length_pos_iff.1 hlen1.1)).symm⟩
  have Hf' := Lib.hid hf'
  rw [hf'] at hlen1
  simp only [List.length_append, List.length_singleton] at hlen1
  have hm1 : f'.length < 1000000 := by omega
  clear h hf' hlen1
  go_enter Try.func46, Try.ntmps46
  go_wp2_with (first
    | (go_at_call 55; refine (len_any g o vf vb f b _ (HF.out.below (balloc (balloc (Below.refl _ _) _) _)) (by omega) (by omega)).mono ?_; rintro e w1 ⟨rfl, hb1⟩; obtain ⟨k1, k2, k3⟩ := box_cells hb1 (box_old _ _ _); have hB1 := Lib.hid ((hb1.block w.heap.size (by simp; omega)).trans (box_old _ _ _)); have hb1' : Below w.heap.size w w1 := bthen (balloc (balloc (Below.refl _ _) _) _) hb1)
    | (go_at_call 88; refine (turn_any g o vf vb f b w1 (HF.out.below hb1') hn h1).mono ?_; rintro e w2 ⟨vf2, vb2, rfl, hfin, hbl, hmv⟩
       rw [Hf'.out] at hfin
       have HFin := Lib.hid hfin
       have HB := Lib.hid hbl
       have HM := Lib.hid hmv
       clear hfin hbl hmv))
  obtain ⟨A2, c2, rfl⟩ := HFin.out.2.2.2.2.1.form
  rw [List.length_append, List.length_singleton] at HFin HB
  rcases Go.Joins.ownsRow_forms HFin.out.2.2.2.2.1 with ⟨_, h0⟩ | ⟨gf, cap, hv⟩
  · simp at h0
  rw [List.length_append, List.length_singleton] at hv
  have hA : A2 = some ⟨gf, 0, none⟩ := by injection hv
  subst hA
  clear hv
  have hrow := HFin.out.2.2.2.2.1.row
  obtain ⟨b0, o0, e0, hb0, hat⟩ := RowIn.at_ (k := f'.length) hrow (by simp)
  injection e0 with e0
  injection e0 with e1 e2
  subst e1 e2
  rw [show (f' ++ [x])[f'.length]'(by simp) = x by simp] at hat
  have r1 : ∀ W, Below w2.heap.size w2 W → W.cell? ⟨g, o, none⟩ = some (.slice (some ⟨gf, 0, none⟩) (f'.length + 1) c2) := fun W hW => (hW.cell (p := ⟨g, o, none⟩) HFin.out.lt).trans HFin.out.1
  have r2 : ∀ W, Below w2.heap.size w2 W → W.cell? ⟨gf, f'.length * 2, none⟩ = some (.int .u64 x.1) := fun W hW => (hW.cell (p := ⟨gf, _, none⟩) hb0).trans (by have := hat 0 _ rfl; rwa [Nat.zero_add, Nat.add_zero] at this)
  have r3 : ∀ W, Below w2.heap.size w2 W → W.cell? ⟨gf, f'.length * 2 + 1, none⟩ = some (.int .u64 x.2) := fun W hW => (hW.cell (p := ⟨gf, _, none⟩) hb0).trans (by have := hat 1 _ rfl; rwa [Nat.zero_add] at this)
  have q1 : (0 : Int) ≤ (f'.length : Int) := by omega
  have q2 : (f'.length : Int) < (f'.length : Int) + 1 := by omega
  have HR := Lib.hid (And.intro hrow hat)
  have hcap : f'.length + 1 ≤ c2 := by
    obtain ⟨_, _, hv, hc, _⟩ := hrow
    injection hv with _ _ e3
    subst e3
    simpa using hc
  have q3 : IntKind.i64.wrap (f'.length : Int) = (f'.length : Int) := IntWalk.i64_in _ (by omega)
  have hB2 : w2.heap[w.heap.size]? = some (.cells #[.int .u64 0, .int .u64 0] 32 (0, 0)) :=
    (HM.out.block w.heap.size k3 (by omega) (fun e => by have := HF.out.2.2.2.2.2.1.lt e; omega)).trans hB1.out
  have r4 : ∀ W, Below w2.heap.size w2 W → W.frozen? ⟨g, o, none⟩ = false := fun W hW => (hW.frozen (p := ⟨g, o, none⟩) HFin.out.lt).trans HFin.out.2.2.1
  have hz2 : w.heap.size < w2.heap.size := (Array.getElem?_eq_some_iff.1 hB2).1
  have r5 : ∀ W, Below w2.heap.size w2 W → W.cell? ⟨w.heap.size, 0, none⟩ = some (.int .u64 0) := fun W hW => (hW.cell (p := ⟨w.heap.size, 0, none⟩) hz2).trans (by simp [World.cell?, hB2])
  have r6 : ∀ W, Below w2.heap.size w2 W → W.cell? ⟨w.heap.size, 1, none⟩ = some (.int .u64 0) := fun W hW => (hW.cell (p := ⟨w.heap.size, 1, none⟩) hz2).trans (by simp [World.cell?, hB2])
  have r7 : ∀ W, Below w2.heap.size w2 W → W.frozen? ⟨w.heap.size, 0, none⟩ = false := fun W hW => (hW.frozen (p := ⟨w.heap.size, 0, none⟩) hz2).trans (by simp [World.frozen?, hB2])
  have r8 : ∀ W, Below w2.heap.size w2 W → W.frozen? ⟨w.heap.size, 1, none⟩ = false := fun W hW => (hW.frozen (p := ⟨w.heap.size, 1, none⟩) hz2).trans (by simp [World.frozen?, hB2])
  have q4 : (f'.length : Int) ≤ (c2 : Int) := by omega
  have q5 : ¬ c2 = 0 := by omega
  have n1 : g ≠ w2.heap.size := by have := HFin.out.lt; omega
  have n2 : g ≠ w.heap.size := by omega
  have n3 : w2.heap.size ≠ g := n1.symm
  have n4 : w.heap.size ≠ g := n2.symm
  have n5 : w.heap.size ≠ w2.heap.size := by omega
  have n6 : w2.heap.size ≠ w.heap.size := by omega
  have HB2 := Lib.hid hB2
  clear hrow hat k1 k2 hB2
  go_region_held3 (fun W => Below w2.heap.size w2 W)
    (repeat (first | assumption | exact Below.refl _ _ | refine Below.drew ?_ | refine balloc ?_ _ | refine Below.setCell ?_ (by simp) _))
    (fail)
  go_wp2_with fail
  go_region_law (fail)
  all_goals go_wp2
  all_goals
    refine bodyPost_ret (v := .tuple #[.agg #[.int .u64 x.1, .int .u64 x.2], .bool true]) (by simp [results, Try.results46, go_sem, *]) rfl ?_
    refine fgot_end HF.out Hf'.out ((Moves.of_below hb1' hlt).trans HM.out (fun r hr => .inl hr)) HFin.out HB.out ?_ ?_
    · repeat (first | exact Moves.refl _ _ _ _ _ | refine Moves.drewE ?_ | refine Moves.other ?_ _ (by omega) (.inl (Nat.le_refl _)) | refine Moves.set ?_ _ (by omega) (by omega) | refine Moves.allocE ?_ _ HFin.out.lt)
    · go_simp
      exact World.cell?_setCell_same' _ _ _ (by rw [World.cell?_alloc_lt _ _ _ HFin.out.lt, HFin.out.1]; rfl)
end Go.Proofs.Ytfnabpmdjfejbaa
