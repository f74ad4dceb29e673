/- fifo's Queue of keys: what it is in memory; Put, Len, turn, Get. -/
import Derived.Test.YtfegielnmdppgaaGreatJ03
import Derived.Test.YtfegielnmdppgaaGreatJ02
import Derived.Deep.AppendLies
import Derived.Deep.RegionLaw
import Derived.BigRegion
namespace Go.Proofs.YtfegielnmdppgaaGreat

section
set_option linter.unusedSimpArgs false
set_option linter.unusedVariables false
open Go.RowKit Go.Lib

/-- What may have turned: block g from o to o + n, the blocks of R, and what is new. -/
structure Moves (w w' : World) (g o n : Nat) (R : Nat → Prop) : Prop where
  os : w'.os = w.os
  tape : w'.tape = w.tape
  output : w'.output = w.output
  size : w.heap.size ≤ w'.heap.size
  block : ∀ k, k < w.heap.size → k ≠ g → ¬ R k → w'.heap[k]? = w.heap[k]?
  cell : ∀ j, (j < o ∨ o + n ≤ j) → w'.cell? ⟨g, j, none⟩ = w.cell? ⟨g, j, none⟩
  frozen : ∀ j, w'.frozen? ⟨g, j, none⟩ = w.frozen? ⟨g, j, none⟩

theorem Moves.refl (w : World) (g o n : Nat) (R : Nat → Prop) : Moves w w g o n R := ⟨rfl, rfl, rfl, Nat.le_refl _, fun _ _ _ _ => rfl, fun _ _ => rfl, fun _ => rfl⟩
theorem Moves.trans {w a b : World} {g o n : Nat} {R R' : Nat → Prop} (h : Moves w a g o n R) (k : Moves a b g o n R') (hR : ∀ r, R' r → R r ∨ w.heap.size ≤ r) : Moves w b g o n R :=
  ⟨k.os.trans h.os, k.tape.trans h.tape, k.output.trans h.output, Nat.le_trans h.size k.size,
    fun i hi hg hr => (k.block i (Nat.lt_of_lt_of_le hi h.size) hg (fun hr' => (hR i hr').elim hr (fun h' => by omega))).trans (h.block i hi hg hr),
    fun j hj => (k.cell j hj).trans (h.cell j hj), fun j => (k.frozen j).trans (h.frozen j)⟩
theorem Moves.of_below {w w' : World} {g o n : Nat} {R : Nat → Prop} (h : Below w.heap.size w w') (hg : g < w.heap.size) : Moves w w' g o n R :=
  ⟨h.os, h.tape, h.output, h.size, fun k hk _ _ => h.block k hk, fun j _ => h.cell (p := ⟨g, j, none⟩) hg, fun j => h.frozen (p := ⟨g, j, none⟩) hg⟩
theorem Moves.setCell {w : World} {g o n i : Nat} {R : Nat → Prop} (v : Value) (hi : o ≤ i) (hi' : i < o + n) : Moves w (w.setCell ⟨g, i, none⟩ v) g o n R :=
  ⟨rfl, rfl, rfl, by simp [World.setCell], fun k _ hk _ => Below.heap_setCell _ _ _ _ hk, fun j hj => World.cell?_setCell_other w _ _ v (fun e => by injection e with _ e _; omega), fun j => World.frozen?_setCell _ _ _ _⟩
theorem Moves.grown {w w' : World} {g o n : Nat} {R : Nat → Prop} {row : Option Nat} (h : w.grownBy w' row) (hr : ∀ k, row = some k → R k) (hg : row ≠ some g) (hlt : g < w.heap.size) : Moves w w' g o n R :=
  ⟨h.os, h.tape, h.output, h.size, fun k hk _ hnr => h.block k hk (fun e => hnr (hr k e.symm)), fun j _ => h.cell_far ⟨g, j, none⟩ hlt (Ne.symm hg), fun j => h.frozen_far ⟨g, j, none⟩ hlt (Ne.symm hg)⟩
theorem Moves.set {w a : World} {g o n : Nat} {R : Nat → Prop} (h : Moves w a g o n R) {i : Nat} (v : Value) (hi : o ≤ i) (hi' : i < o + n) : Moves w (a.setCell ⟨g, i, none⟩ v) g o n R :=
  h.trans (R' := fun _ => False) (Moves.setCell v hi hi') (fun _ hr => hr.elim)
theorem Moves.other {w a : World} {g o n : Nat} {R : Nat → Prop} (h : Moves w a g o n R) {k j : Nat} (v : Value) (hk : k ≠ g) (hR : R k ∨ w.heap.size ≤ k) : Moves w (a.setCell ⟨k, j, none⟩ v) g o n R :=
  ⟨h.os, h.tape, h.output, by have := h.size; simp [World.setCell]; omega,
    fun i hi hg hr => (Below.heap_setCell _ _ _ _ (fun e => by have e' : i = k := e; subst e'; exact hR.elim hr (fun h' => by omega))).trans (h.block i hi hg hr),
    fun i hi => (World.cell?_setCell_other _ _ _ _ (fun e => by injection e with e _ _; exact hk e)).trans (h.cell i hi), fun i => (World.frozen?_setCell _ _ _ _).trans (h.frozen i)⟩
theorem Moves.drewE {w a : World} {g o n : Nat} {R : Nat → Prop} (h : Moves w a g o n R) : Moves w a.drew g o n R := ⟨h.os, h.tape, h.output, h.size, h.block, h.cell, h.frozen⟩
theorem Moves.allocE {w a : World} {g o n : Nat} {R : Nat → Prop} (h : Moves w a g o n R) (x : Obj) (hg : g < w.heap.size) : Moves w (a.alloc x) g o n R :=
  h.trans (R' := fun _ => False) (Moves.of_below (balloc (Below.refl _ _) _) (Nat.lt_of_lt_of_le hg h.size)) (fun _ hr => hr.elim)
theorem Moves.mono {w w' : World} {g o n : Nat} {R R' : Nat → Prop} (h : Moves w w' g o n R) (hR : ∀ r, R r → R' r) : Moves w w' g o n R' :=
  ⟨h.os, h.tape, h.output, h.size, fun k hk hg hr => h.block k hk hg (fun h' => hr (hR k h')), h.cell, h.frozen⟩
theorem Moves.below {w w' : World} {g o n B : Nat} {R : Nat → Prop} (h : Moves w w' g o n R) (hg : B ≤ g) (hR : ∀ r, R r → B ≤ r) (hB : B ≤ w.heap.size) : Below B w w' :=
  ⟨h.os, h.tape, h.output, h.size, fun k hk => h.block k (by omega) (by omega) (fun hr => by have := hR k hr; omega)⟩

/-- A row of keys of one's own. -/
def OwnK (w : World) (v : Value) (l : List Ky) : Prop := w.ownsRow 0 40 2 v l.length (cellsOfRow keyC l)
theorem keyC_len (x : Ky) : (keyC x).length = 2 := rfl
theorem keyC_one (x : Ky) : ∀ u ∈ keyC x, u.oneCell' = true := by
  intro u hu
  simp only [keyC, List.mem_cons, List.not_mem_nil, or_false] at hu
  rcases hu with rfl | rfl <;> rfl
theorem OwnK.form {w : World} {v : Value} {l : List Ky} (h : OwnK w v l) : ∃ A c, v = .slice A l.length c := own_form h
theorem OwnK.row {w : World} {v : Value} {l : List Ky} (h : OwnK w v l) : RowIn 2 keyC w v l := RowIn.own keyC_len h
theorem OwnK.nil (w : World) : OwnK w (.slice none 0 0) [] := ⟨rfl, .inl ⟨rfl, rfl⟩⟩
theorem OwnK.lt {w : World} {v : Value} {l : List Ky} (h : OwnK w v l) {r : Nat} (hr : v.ownBlock = some r) : r < w.heap.size := (World.ownsRow.lt h r hr).2
theorem own_block {w w' : World} {base : Nat} {e : TypeId} {size n : Nat} {v : Value} {xs : List Value} (h : w.ownsRow base e size v n xs) (hb : ∀ r, v.ownBlock = some r → w'.heap[r]? = w.heap[r]?) : w'.ownsRow base e size v n xs := by
  refine ⟨h.1, ?_⟩
  rcases h.2 with hn | ⟨g, cap, cur, hv, h1, h2, rest⟩
  · exact .inl hn
  · exact .inr ⟨g, cap, cur, hv, h1, (hb g (by rw [hv]; rfl)).trans h2, rest⟩
theorem OwnK.block {w w' : World} {v : Value} {l : List Ky} (h : OwnK w v l) (hb : ∀ r, v.ownBlock = some r → w'.heap[r]? = w.heap[r]?) : OwnK w' v l := own_block h hb

/-- A queue of keys at a place. -/
def FIn (w : World) (g o : Nat) (vf vb : Value) (f b : List Ky) : Prop :=
  w.cell? ⟨g, o, none⟩ = some vf ∧ w.cell? ⟨g, o + 1, none⟩ = some vb ∧ w.frozen? ⟨g, o, none⟩ = false ∧ w.frozen? ⟨g, o + 1, none⟩ = false ∧
  OwnK w vf f ∧ OwnK w vb b ∧ vf.ownBlock ≠ some g ∧ vb.ownBlock ≠ some g ∧ (∀ r, vf.ownBlock = some r → vb.ownBlock ≠ some r)

theorem FIn.lt {w : World} {g o : Nat} {vf vb : Value} {f b : List Ky} (h : FIn w g o vf vb f b) : g < w.heap.size := World.block_lt_of_cell? w ⟨g, o, none⟩ h.1
theorem FIn.keep {w w' : World} {g o : Nat} {vf vb : Value} {f b : List Ky} (h : FIn w g o vf vb f b) (hc : ∀ j, w'.cell? ⟨g, j, none⟩ = w.cell? ⟨g, j, none⟩) (hf : ∀ j, w'.frozen? ⟨g, j, none⟩ = w.frozen? ⟨g, j, none⟩)
    (hb : ∀ r, vf.ownBlock = some r ∨ vb.ownBlock = some r → w'.heap[r]? = w.heap[r]?) : FIn w' g o vf vb f b := by
  obtain ⟨h1, h2, h3, h4, h5, h6, h7⟩ := h
  exact ⟨(hc _).trans h1, (hc _).trans h2, (hf _).trans h3, (hf _).trans h4, h5.block fun r hr => hb r (.inl hr), h6.block fun r hr => hb r (.inr hr), h7⟩
theorem FIn.below {w w' : World} {g o : Nat} {vf vb : Value} {f b : List Ky} (h : FIn w g o vf vb f b) (hb : Below w.heap.size w w') : FIn w' g o vf vb f b :=
  h.keep (fun j => hb.cell (p := ⟨g, j, none⟩) h.lt) (fun j => hb.frozen (p := ⟨g, j, none⟩) h.lt) (fun r hr => hb.block r (by
    obtain ⟨_, _, _, _, h5, h6, _⟩ := h
    exact hr.elim h5.lt h6.lt))

def PutSays (w : World) (g o : Nat) (vf vb : Value) (f b : List Ky) (x : Ky) (e : Ending) (w' : World) : Prop :=
  ∃ vb', e = .returned (.bool true) ∧ FIn w' g o vf vb' f (b ++ [x]) ∧ (vb'.ownBlock = vb.ownBlock ∨ ∃ k, vb'.ownBlock = some k ∧ w.heap.size ≤ k) ∧ Moves w w' g o 2 (fun k => vb.ownBlock = some k)

theorem put_end {w w1 w2 : World} {g o gb cap : Nat} {vf vb : Value} {f b : List Ky} {x : Ky} (h : FIn w g o vf vb f b) (hw1 : Below w.heap.size w w1)
    (hown : w2.ownsRow 0 40 2 (.slice (some ⟨gb, 0, none⟩) (b.length + 1) cap) (b.length + 1) (cellsOfRow keyC b ++ keyC x)) (hg : w1.grownBy w2 vb.ownBlock) (hl : vb.ownBlock = some gb ∨ w.heap.size ≤ gb) :
    PutSays w g o vf vb f b x (.returned (.bool true)) (w2.setCell ⟨g, o + 1, none⟩ (.slice (some ⟨gb, 0, none⟩) (b.length + 1) cap)) := by
  have HF0 := h
  obtain ⟨h1, h2, h3, h4, h5, h6, h7, h8, h9⟩ := h.below hw1
  have hlt := (h.below hw1).lt
  have hs := hw1.size
  have hlt0 := h.lt
  have hgb : gb ≠ g := by
    rcases hl with h | h
    · intro e; rw [h, e] at h8; exact h8 rfl
    · omega
  have hgs := hg.size
  have hm2 : Moves w w2 g o 2 (fun k => vb.ownBlock = some k) := (Moves.of_below hw1 hlt0).trans (Moves.grown hg (fun k e => e) (fun e => h8 e) hlt) (fun r hr => .inl hr)
  refine ⟨.slice (some ⟨gb, 0, none⟩) (b.length + 1) cap, rfl, ⟨?_, ?_, ?_, ?_, ?_, ?_, h7, ?_, ?_⟩, ?_, ?_⟩
  · rw [World.cell?_setCell_other _ _ _ _ (fun e => by injection e with _ e _; omega), hg.cell_far ⟨g, o, none⟩ hlt (Ne.symm h8), h1]
  · exact World.cell?_setCell_same' _ _ _ (by rw [hg.cell_far ⟨g, o + 1, none⟩ hlt (Ne.symm h8), h2]; rfl)
  · rw [World.frozen?_setCell, hg.frozen_far ⟨g, o, none⟩ hlt (Ne.symm h8), h3]
  · rw [World.frozen?_setCell, hg.frozen_far ⟨g, o + 1, none⟩ hlt (Ne.symm h8), h4]
  · refine h5.block fun r hr => ?_
    have hrg : r ≠ g := fun e => h7 (e ▸ hr)
    exact (Below.heap_setCell _ _ _ _ hrg).trans (hg.block r (h5.lt hr) (fun e => h9 r hr e.symm))
  · have e1 : (b ++ [x]).length = b.length + 1 := by simp
    have e2 : cellsOfRow keyC (b ++ [x]) = cellsOfRow keyC b ++ keyC x := by rw [cellsOfRow_append]; simp [cellsOfRow]
    unfold OwnK
    rw [e1, e2]
    refine own_block hown fun r hr => ?_
    obtain rfl : gb = r := by simpa [Value.ownBlock] using hr
    exact Below.heap_setCell _ _ _ _ hgb
  · intro e; exact hgb (by simpa [Value.ownBlock] using e)
  · intro r hr e
    obtain rfl : gb = r := by simpa [Value.ownBlock] using e
    rcases hl with h | h
    · exact h9 _ hr h
    · have := (HF0.2.2.2.2.1).lt hr; omega
  · rcases hl with h | h
    · exact .inl h.symm
    · exact .inr ⟨gb, rfl, by omega⟩
  · exact hm2.trans (R' := fun _ => False) (Moves.setCell _ (by omega) (by omega)) (fun r hr => hr.elim)

theorem news_new (w : World) (cs : Array Value) (T B : Nat) (hB : w.heap.size = B) : ∀ j u, cs.toList[j]? = some u → (w.alloc (.cells cs T)).cell? ((⟨B, 0, none⟩ : Addr).add j) = some u := by
  subst hB
  exact World.news_of_block (heap_alloc_new _ _)

theorem put_step {w w1 w2 : World} {g o : Nat} {vf vb : Value} {f b : List Ky} (h : FIn w g o vf vb f b) (hw1 : Below w.heap.size w w1) (hg : w1.grownBy w2 vb.ownBlock) :
    w2.cell? ⟨g, o + 1, none⟩ = some vb ∧ w2.frozen? ⟨g, o + 1, none⟩ = false := by
  have hlt := (h.below hw1).lt
  obtain ⟨_, h2, _, h4, _, _, _, h8, _⟩ := h.below hw1
  exact ⟨(hg.cell_far ⟨g, o + 1, none⟩ hlt (Ne.symm h8)).trans h2, (hg.frozen_far ⟨g, o + 1, none⟩ hlt (Ne.symm h8)).trans h4⟩

def TurnSays (w : World) (g o : Nat) (vb : Value) (b : List Ky) (e : Ending) (w' : World) : Prop :=
  e = .returned (.tuple #[]) ∧ FIn w' g o vb (.slice none 0 0) b.reverse [] ∧ Moves w w' g o 2 (fun k => vb.ownBlock = some k)

def turnL (f b : List Ky) : List Ky × List Ky := if f = [] then (b.reverse, []) else (f, b)
theorem turnL_line (f b : List Ky) : (turnL f b).1.reverse ++ (turnL f b).2 = f.reverse ++ b := by
  unfold turnL
  split
  · rename_i h; subst h; simp
  · rfl

def TurnedSays (w : World) (g o : Nat) (vf vb : Value) (f b : List Ky) (e : Ending) (w' : World) : Prop :=
  ∃ vf' vb', e = .returned (.tuple #[]) ∧ FIn w' g o vf' vb' (turnL f b).1 (turnL f b).2 ∧ (∀ r, vf'.ownBlock = some r ∨ vb'.ownBlock = some r → vf.ownBlock = some r ∨ vb.ownBlock = some r) ∧ Moves w w' g o 2 (fun k => vb.ownBlock = some k)

def FGotSays (w : World) (g o : Nat) (vf vb : Value) (f b : List Ky) (e : Ending) (w' : World) : Prop :=
  ∃ vf' vb' x f', (turnL f b).1 = f' ++ [x] ∧ e = .returned (.tuple #[.agg #[.int .u64 x.1, .int .u64 x.2], .bool true]) ∧ FIn w' g o vf' vb' f' (turnL f b).2 ∧ (∀ r, vf'.ownBlock = some r ∨ vb'.ownBlock = some r → vf.ownBlock = some r ∨ vb.ownBlock = some r) ∧ Moves w w' g o 2 (fun k => vb.ownBlock = some k)

theorem fgot_end {w w2 w3 : World} {g o gf cap : Nat} {vf vb vb2 : Value} {f b f' : List Ky} {x : Ky} (h : FIn w g o vf vb f b) (hf1 : (turnL f b).1 = f' ++ [x]) (hw : Moves w w2 g o 2 (fun k => vb.ownBlock = some k))
    (hfin : FIn w2 g o (.slice (some ⟨gf, 0, none⟩) (f'.length + 1) cap) vb2 (f' ++ [x]) (turnL f b).2) (hbl : ∀ r, (Value.slice (some ⟨gf, 0, none⟩) (f'.length + 1) cap).ownBlock = some r ∨ vb2.ownBlock = some r → vf.ownBlock = some r ∨ vb.ownBlock = some r)
    (hM : Moves w2 w3 g o 1 (fun k => w.heap.size ≤ k)) (hc : w3.cell? ⟨g, o, none⟩ = some (.slice (some ⟨gf, 0, none⟩) f'.length cap)) :
    FGotSays w g o vf vb f b (.returned (.tuple #[.agg #[.int .u64 x.1, .int .u64 x.2], .bool true])) w3 := by
  have hlow : ∀ r, (Value.slice (some ⟨gf, 0, none⟩) (f'.length + 1) cap).ownBlock = some r ∨ vb2.ownBlock = some r → r < w.heap.size := fun r hr => (hbl r hr).elim h.2.2.2.2.1.lt h.2.2.2.2.2.1.lt
  have hs := hw.size
  obtain ⟨h1, h2, h3, h4, h5, h6, h7, h8, h9⟩ := hfin
  have hgf : gf ≠ g := fun e => h7 (by rw [e]; rfl)
  refine ⟨_, vb2, x, f', hf1, rfl, ⟨hc, (hM.cell _ (.inr (by omega))).trans h2, (hM.frozen _).trans h3, (hM.frozen _).trans h4, ?_, h6.block fun r hr => hM.block r (h6.lt hr) (fun e => h8 (e ▸ hr)) (by have := hlow r (.inr hr); omega), h7, h8, h9⟩, hbl, ?_⟩
  · have hx : OwnK w3 (.slice (some ⟨gf, 0, none⟩) (f'.length + 1) cap) (f' ++ [x]) := h5.block fun r hr => by
      have := hlow r (.inl hr)
      obtain rfl : gf = r := by simpa [Value.ownBlock] using hr
      exact hM.block gf (by omega) hgf (by omega)
    unfold OwnK at hx ⊢
    rw [List.length_append, List.length_singleton, cellsOfRow_append] at hx
    rcases hx.2 with ⟨hv, _⟩ | ⟨g', cap', cur, hv, hb, hg, hc1, hc2, hc3, hc4⟩
    · cases hv
    · injection hv with e1 e2 e3
      injection e1 with e1
      injection e1 with e1
      subst e1 e3
      refine ⟨cellsOfRow_len keyC_len f', .inr ⟨gf, cap, cur, rfl, hb, hg, by omega, hc2, hc3, ?_⟩⟩
      have : (cur.toList.take ((f'.length + 1) * 2)).take (f'.length * 2) = cellsOfRow keyC f' := by
        rw [hc4, List.take_append_of_le_length (by rw [cellsOfRow_len keyC_len]; exact Nat.le_refl _), List.take_of_length_le (by rw [cellsOfRow_len keyC_len]; exact Nat.le_refl _)]
      rwa [List.take_take, Nat.min_eq_left (by omega)] at this
  · refine ⟨hM.os.trans hw.os, hM.tape.trans hw.tape, hM.output.trans hw.output, Nat.le_trans hw.size hM.size, fun k hk hg hr => (hM.block k (by omega) hg (by omega)).trans (hw.block k hk hg hr), fun j hj => (hM.cell j (by omega)).trans (hw.cell j hj), fun j => (hM.frozen j).trans (hw.frozen j)⟩
end

end Go.Proofs.YtfegielnmdppgaaGreat
