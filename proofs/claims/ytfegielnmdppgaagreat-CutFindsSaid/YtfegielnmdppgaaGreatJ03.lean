/- Lists of keys as they come in; Contracts of the shelf, laid at this program (by lay-plain.mjs; numbers by name); A row of the call's own under the shelf's words for sorting and turning: HoldsK, putRowK; fifo's Queue of keys: what it is in memory; Put, Len, turn, Get. -/
import Derived.Test.YtfegielnmdppgaaGreatJ01
import Derived.Shelf.SlicesQ.Reverse
import Derived.Shelf.GgSortFunc.RowK
import Derived.Sort.Grow
import Derived.Test.YtfegielnmdppgaaGreatJ02
import Derived.Deep.AppendLies
import Derived.Deep.RegionLaw
import Derived.BigRegion
namespace Go.Proofs.YtfegielnmdppgaaGreat

section
set_option linter.unusedSimpArgs false
set_option linter.unusedVariables false
open Go.RowKit Go.Lib Go.ChangeShapes Go.WideShapes Go.Joins

theorem cl_key : Tryz.prog.cellsOf 40 = 2 := by kernel_rfl
theorem cl_u64 : Tryz.prog.cellsOf 38 = 1 := by kernel_rfl

theorem u64_of_wf {n : Int} (h : (Lit.int .u64 n).wf = true) : ∃ m : Nat, n = m ∧ m < 18446744073709551616 := by
  have : 0 ≤ n ∧ n ≤ 18446744073709551615 := by simpa [Lit.wf, IntKind.min, IntKind.max, IntKind.signed, IntKind.bits] using h
  exact ⟨n.toNat, by omega, by omega⟩

def keyC (p : Ky) : List Value := [.int .u64 p.1, .int .u64 p.2]

theorem keysIn_row {w : World} {v : Value} {l : List Ky} (h : RowIn 2 keyC w v l) : KeysIn w v l := by
  obtain ⟨A, c, hv, _, h⟩ := h
  refine ⟨A, c, hv, fun hn => ?_⟩
  obtain ⟨b, o, hA, hlt, h⟩ := h hn
  refine ⟨b, o, hA, hlt, fun j u hu => ?_⟩
  obtain ⟨x, h1, h2⟩ := cellsOfRow_split (n := 2) (f := keyC) (by decide) (fun _ => rfl) l j u hu
  have := h _ x h1 _ u h2
  rw [show o + j / 2 * 2 + j % 2 = o + j by omega] at this
  exact this
theorem row_keysIn {w : World} {A : Option Addr} {m c : Nat} {l : List Ky} (h : KeysIn w (.slice A m c) l) (hc : m ≤ c) : RowIn 2 keyC w (.slice A m c) l := by
  obtain ⟨A1, c1, hv, h⟩ := h
  injection hv with e1 e2 e3
  subst e1 e2 e3
  refine ⟨_, _, rfl, hc, fun hn => ?_⟩
  obtain ⟨b, o, hA, hlt, h⟩ := h hn
  refine ⟨b, o, hA, hlt, fun k x hk j u hu => ?_⟩
  have := h _ u (cellsOfRow_at (n := 2) (f := keyC) (fun _ => rfl) l k x hk j u hu)
  rwa [← Nat.add_assoc] at this

section
variable {H : Type} {enc : TypeId × Value → H} {w : World} {base : Nat} {spare : Nat → Bool} {held : Bool}

theorem field_u64 {fuel : Nat} {t : TypeId} (ht : Tryz.prog.underlying t = some (.int .u64)) (hc : Tryz.prog.cellsOf t = 1) {cs : List Value} {xs : List (DataW H × List MemPlace)} {i o : Nat} (hi : i < xs.length) {v : Value} (hv : cs.drop o = v :: cs.drop (o + 1))
    (h : DataW.trod enc Tryz.prog w base spare held fuel t ((cs.drop o).take (Tryz.prog.cellsOf t)) = xs[i]?) : ∃ n : Nat, v = .int .u64 n ∧ n < 18446744073709551616 := by
  rw [hc, hv, List.take_succ_cons, List.take_zero, List.getElem?_eq_getElem hi] at h
  obtain ⟨n, hn, _, hw⟩ := DataW.trod_int ht h
  simp only [List.cons.injEq, and_true] at hn
  obtain ⟨m, rfl, hm⟩ := u64_of_wf hw
  exact ⟨m, hn, hm⟩

set_option maxRecDepth 100000 in
theorem key_reads {fuel : Nat} {cs : List Value} {x : DataW H × List MemPlace} (h : DataW.trod enc Tryz.prog w base spare held fuel 40 cs = some x) :
    ∃ p : Ky, p.ok ∧ cs = keyC p := by
  obtain ⟨xs, n, _, _, hl, hx, hf⟩ := DataW.trod_struct Tryz.underlying40 h
  rw [cl_key] at hl
  replace hx : xs.length = 2 := hx
  match cs, hl with
  | [a0, a1], _ =>
    obtain ⟨n0, rfl, k0⟩ := field_u64 Tryz.underlying38 cl_u64 (i := 0) (by omega) (o := 0) rfl (hf 0 _ rfl)
    obtain ⟨n1, rfl, k1⟩ := field_u64 Tryz.underlying38 cl_u64 (i := 1) (by omega) (o := 1) rfl (hf 1 _ rfl)
    exact ⟨(n0, n1), ⟨k0, k1⟩, rfl⟩

end
end

section
set_option linter.unusedSimpArgs false
set_option linter.unusedVariables false
open Go.Shelf
end

section
set_option linter.unusedSimpArgs false
set_option linter.unusedVariables false
open Go.RowKit Go.Lib Go.Sort

section
variable {α : Type} [Inhabited α] {f : α → List Value} {n : Nat}

theorem flat_row (hf : ∀ x, (f x).length = n) (hn : 0 < n) (l : List α) : flatK f n l.toArray = (cellsOfRow f l).toArray := by
  refine ext_get! (by simp [cellsOfRow_len hf]) fun t ht => ?_
  have ht' : t < l.length * n := by simpa using ht
  rw [get_flatK _ _ _ t (by simpa using ht')]
  have hk : t / n < l.length := by rw [Nat.div_lt_iff_lt_mul hn]; exact ht'
  have hm : t % n < (f l[t / n]).length := by rw [hf]; exact Nat.mod_lt _ hn
  have hlt : t < (cellsOfRow f l).length := by rw [cellsOfRow_len hf]; exact ht'
  have h := cellsOfRow_at hf l (t / n) l[t / n] (List.getElem?_eq_getElem hk) (t % n) _ (List.getElem?_eq_getElem hm)
  rw [show t / n * n + t % n = t by rw [Nat.mul_comm]; exact Nat.div_add_mod t n] at h
  have e1 : (cellsOfRow f l).toArray[t]! = (f l[t / n])[t % n] := by
    rw [getElem!_pos _ t (by simpa using hlt)]
    have := (List.getElem?_eq_some_iff.1 h).2
    simpa using this
  rw [e1]
  have e2 : l.toArray[t / n]! = l[t / n] := by rw [getElem!_pos _ _ (by simpa using hk)]; simp
  rw [e2]
  exact getElem!_pos (f l[t / n]) (t % n) hm

theorem holdsK_own (hf : ∀ x, (f x).length = n) (hn : 0 < n) {w : World} {base g cap : Nat} {e : TypeId} {l : List α} (h : w.ownsRow base e n (.slice (some ⟨g, 0, none⟩) l.length cap) l.length (cellsOfRow f l)) :
    HoldsK f n w g 0 l.toArray := by
  unfold HoldsK
  rw [flat_row hf hn]
  intro j hj
  have hj' : j < (cellsOfRow f l).length := by simpa using hj
  have hjl := hj'
  rw [cellsOfRow_len hf] at hjl
  have hc := h.cellAt j hjl
  rcases h.2 with ⟨hv, _⟩ | ⟨g', cap', cur, hv, _, hg, _⟩
  · cases hv
  · injection hv with e1 e2 e3
    injection e1 with e1
    injection e1 with e1
    subst e1
    refine ⟨?_, Go.Joins.unfrozen_of_block hg (0 + j)⟩
    rw [Nat.zero_add, hc, List.getElem?_eq_getElem hj', getElem!_pos _ j hj]
    simp

theorem take_put (F : List Value) (c : Array Value) (h : F.length ≤ c.size) : (putCells id 0 F.toArray c).toList.take F.length = F := by
  apply List.ext_getElem?
  intro i
  rw [List.getElem?_take]
  by_cases hi : i < F.length
  · rw [if_pos hi, Array.getElem?_toList, putCells, Array.getElem?_mapIdx, Array.getElem?_eq_getElem (by omega), Option.map_some, if_pos ⟨Nat.zero_le _, by simpa using hi⟩, Nat.sub_zero, List.getElem?_eq_getElem hi]
    simp [hi]
  · rw [if_neg hi, List.getElem?_eq_none (by omega)]

theorem putRow_heap {w : World} {g : Nat} {cur : Array Value} {e : TypeId} {fr : Nat × Nat} (F : Array Value) (hb : w.heap[g]? = some (.cells cur e fr)) :
    (putRow id w g 0 F).heap[g]? = some (.cells (putCells id 0 F cur) e fr) := by
  simp only [putRow, mapBlock, Array.getElem?_modify, if_pos]
  rw [hb]
  rfl
theorem putRow_other {w : World} {g k : Nat} (F : Array Value) (h : k ≠ g) : (putRow id w g 0 F).heap[k]? = w.heap[k]? := by
  simp only [putRow, mapBlock, Array.getElem?_modify, if_neg (Ne.symm h)]

/-- Behind a turning: the same slice owns what was laid. -/
theorem own_putRowK (hf : ∀ x, (f x).length = n) (hn : 0 < n) {w : World} {base g cap k : Nat} {e : TypeId} {l m : List α} (h : w.ownsRow base e n (.slice (some ⟨g, 0, none⟩) l.length cap) l.length (cellsOfRow f l)) (hm : m.length = l.length) (os : Array Obj) :
    (grow (putRowK f n (Sort.ahead w k) g 0 m.toArray) os).ownsRow base e n (.slice (some ⟨g, 0, none⟩) m.length cap) m.length (cellsOfRow f m) ∧ w.grownBy (grow (putRowK f n (Sort.ahead w k) g 0 m.toArray) os) (some g) := by
  rcases h.2 with ⟨hv, _⟩ | ⟨g', cap', cur, hv, hbase, hg, h1, h2, h3, h4⟩
  · cases hv
  · injection hv with e1 e2 e3
    injection e1 with e1
    injection e1 with e1
    subst e1 e3
    have hglt : g < w.heap.size := (Array.getElem?_eq_some_iff.1 hg).1
    unfold putRowK
    rw [flat_row hf hn]
    have hsz : (putRow id (Sort.ahead w k) g 0 (cellsOfRow f m).toArray).heap.size = w.heap.size := by simp [putRow, mapBlock, Sort.ahead]
    have hblk : (grow (putRow id (Sort.ahead w k) g 0 (cellsOfRow f m).toArray) os).heap[g]? = some (.cells (putCells id 0 (cellsOfRow f m).toArray cur) e (0, 0)) := by
      rw [heap_grow_old _ _ (by rw [hsz]; exact hglt)]
      exact putRow_heap (w := Sort.ahead w k) _ hg
    have hle : (cellsOfRow f m).length ≤ cur.size := by
      rw [cellsOfRow_len hf, hm, h3]
      exact Nat.mul_le_mul_right _ h1
    refine ⟨⟨cellsOfRow_len hf m, .inr ⟨g, cap, _, rfl, hbase, hblk, by omega, h2, by simp [putCells, h3], ?_⟩⟩, ⟨rfl, rfl, rfl, by simp only [grow, Array.size_append, hsz]; omega, fun j hj hne => ?_⟩⟩
    · have := take_put (cellsOfRow f m) cur hle
      rwa [cellsOfRow_len hf] at this
    · rw [heap_grow_old _ _ (by rw [hsz]; exact hj)]
      exact putRow_other (w := Sort.ahead w k) _ (fun e => hne (by rw [e]))
end
end

section
set_option linter.unusedSimpArgs false
set_option linter.unusedVariables false
open Go.RowKit Go.Lib

/-- What may have turned: block g from o to o + n, the blocks of R, and what is new. -/
structure Moves (w w' : World) (g o n : Nat) (R : Nat → Prop) : Prop where
  os : w'.os = w.os
  tape : w'.tape = w.tape
  output : w'.output = w.output
  size : w.heap.size ≤ w'.heap.size
  block : ∀ k, k < w.heap.size → k ≠ g → ¬ R k → w'.heap[k]? = w.heap[k]?
  cell : ∀ j, (j < o ∨ o + n ≤ j) → w'.cell? ⟨g, j, none⟩ = w.cell? ⟨g, j, none⟩
  frozen : ∀ j, w'.frozen? ⟨g, j, none⟩ = w.frozen? ⟨g, j, none⟩

theorem Moves.refl (w : World) (g o n : Nat) (R : Nat → Prop) : Moves w w g o n R := ⟨rfl, rfl, rfl, Nat.le_refl _, fun _ _ _ _ => rfl, fun _ _ => rfl, fun _ => rfl⟩
theorem Moves.trans {w a b : World} {g o n : Nat} {R R' : Nat → Prop} (h : Moves w a g o n R) (k : Moves a b g o n R') (hR : ∀ r, R' r → R r ∨ w.heap.size ≤ r) : Moves w b g o n R :=
  ⟨k.os.trans h.os, k.tape.trans h.tape, k.output.trans h.output, Nat.le_trans h.size k.size,
    fun i hi hg hr => (k.block i (Nat.lt_of_lt_of_le hi h.size) hg (fun hr' => (hR i hr').elim hr (fun h' => by omega))).trans (h.block i hi hg hr),
    fun j hj => (k.cell j hj).trans (h.cell j hj), fun j => (k.frozen j).trans (h.frozen j)⟩
theorem Moves.of_below {w w' : World} {g o n : Nat} {R : Nat → Prop} (h : Below w.heap.size w w') (hg : g < w.heap.size) : Moves w w' g o n R :=
  ⟨h.os, h.tape, h.output, h.size, fun k hk _ _ => h.block k hk, fun j _ => h.cell (p := ⟨g, j, none⟩) hg, fun j => h.frozen (p := ⟨g, j, none⟩) hg⟩
theorem Moves.setCell {w : World} {g o n i : Nat} {R : Nat → Prop} (v : Value) (hi : o ≤ i) (hi' : i < o + n) : Moves w (w.setCell ⟨g, i, none⟩ v) g o n R :=
  ⟨rfl, rfl, rfl, by simp [World.setCell], fun k _ hk _ => Below.heap_setCell _ _ _ _ hk, fun j hj => World.cell?_setCell_other w _ _ v (fun e => by injection e with _ e _; omega), fun j => World.frozen?_setCell _ _ _ _⟩
theorem Moves.grown {w w' : World} {g o n : Nat} {R : Nat → Prop} {row : Option Nat} (h : w.grownBy w' row) (hr : ∀ k, row = some k → R k) (hg : row ≠ some g) (hlt : g < w.heap.size) : Moves w w' g o n R :=
  ⟨h.os, h.tape, h.output, h.size, fun k hk _ hnr => h.block k hk (fun e => hnr (hr k e.symm)), fun j _ => h.cell_far ⟨g, j, none⟩ hlt (Ne.symm hg), fun j => h.frozen_far ⟨g, j, none⟩ hlt (Ne.symm hg)⟩
theorem Moves.set {w a : World} {g o n : Nat} {R : Nat → Prop} (h : Moves w a g o n R) {i : Nat} (v : Value) (hi : o ≤ i) (hi' : i < o + n) : Moves w (a.setCell ⟨g, i, none⟩ v) g o n R :=
  h.trans (R' := fun _ => False) (Moves.setCell v hi hi') (fun _ hr => hr.elim)
theorem Moves.other {w a : World} {g o n : Nat} {R : Nat → Prop} (h : Moves w a g o n R) {k j : Nat} (v : Value) (hk : k ≠ g) (hR : R k ∨ w.heap.size ≤ k) : Moves w (a.setCell ⟨k, j, none⟩ v) g o n R :=
  ⟨h.os, h.tape, h.output, by have := h.size; simp [World.setCell]; omega,
    fun i hi hg hr => (Below.heap_setCell _ _ _ _ (fun e => by have e' : i = k := e; subst e'; exact hR.elim hr (fun h' => by omega))).trans (h.block i hi hg hr),
    fun i hi => (World.cell?_setCell_other _ _ _ _ (fun e => by injection e with e _ _; exact hk e)).trans (h.cell i hi), fun i => (World.frozen?_setCell _ _ _ _).trans (h.frozen i)⟩
theorem Moves.mono {w w' : World} {g o n : Nat} {R R' : Nat → Prop} (h : Moves w w' g o n R) (hR : ∀ r, R r → R' r) : Moves w w' g o n R' :=
  ⟨h.os, h.tape, h.output, h.size, fun k hk hg hr => h.block k hk hg (fun h' => hr (hR k h')), h.cell, h.frozen⟩
theorem Moves.below {w w' : World} {g o n B : Nat} {R : Nat → Prop} (h : Moves w w' g o n R) (hg : B ≤ g) (hR : ∀ r, R r → B ≤ r) (hB : B ≤ w.heap.size) : Below B w w' :=
  ⟨h.os, h.tape, h.output, h.size, fun k hk => h.block k (by omega) (by omega) (fun hr => by have := hR k hr; omega)⟩

/-- A row of keys of one's own. -/
def OwnK (w : World) (v : Value) (l : List Ky) : Prop := w.ownsRow 0 40 2 v l.length (cellsOfRow keyC l)
theorem keyC_len (x : Ky) : (keyC x).length = 2 := rfl
theorem keyC_one (x : Ky) : ∀ u ∈ keyC x, u.oneCell' = true := by
  intro u hu
  simp only [keyC, List.mem_cons, List.not_mem_nil, or_false] at hu
  rcases hu with rfl | rfl <;> rfl
theorem OwnK.form {w : World} {v : Value} {l : List Ky} (h : OwnK w v l) : ∃ A c, v = .slice A l.length c := own_form h
theorem OwnK.row {w : World} {v : Value} {l : List Ky} (h : OwnK w v l) : RowIn 2 keyC w v l := RowIn.own keyC_len h
theorem OwnK.nil (w : World) : OwnK w (.slice none 0 0) [] := ⟨rfl, .inl ⟨rfl, rfl⟩⟩
theorem OwnK.lt {w : World} {v : Value} {l : List Ky} (h : OwnK w v l) {r : Nat} (hr : v.ownBlock = some r) : r < w.heap.size := (World.ownsRow.lt h r hr).2
theorem own_block {w w' : World} {base : Nat} {e : TypeId} {size n : Nat} {v : Value} {xs : List Value} (h : w.ownsRow base e size v n xs) (hb : ∀ r, v.ownBlock = some r → w'.heap[r]? = w.heap[r]?) : w'.ownsRow base e size v n xs := by
  refine ⟨h.1, ?_⟩
  rcases h.2 with hn | ⟨g, cap, cur, hv, h1, h2, rest⟩
  · exact .inl hn
  · exact .inr ⟨g, cap, cur, hv, h1, (hb g (by rw [hv]; rfl)).trans h2, rest⟩
theorem OwnK.block {w w' : World} {v : Value} {l : List Ky} (h : OwnK w v l) (hb : ∀ r, v.ownBlock = some r → w'.heap[r]? = w.heap[r]?) : OwnK w' v l := own_block h hb

/-- A queue of keys at a place. -/
def FIn (w : World) (g o : Nat) (vf vb : Value) (f b : List Ky) : Prop :=
  w.cell? ⟨g, o, none⟩ = some vf ∧ w.cell? ⟨g, o + 1, none⟩ = some vb ∧ w.frozen? ⟨g, o, none⟩ = false ∧ w.frozen? ⟨g, o + 1, none⟩ = false ∧
  OwnK w vf f ∧ OwnK w vb b ∧ vf.ownBlock ≠ some g ∧ vb.ownBlock ≠ some g ∧ (∀ r, vf.ownBlock = some r → vb.ownBlock ≠ some r)

theorem FIn.lt {w : World} {g o : Nat} {vf vb : Value} {f b : List Ky} (h : FIn w g o vf vb f b) : g < w.heap.size := World.block_lt_of_cell? w ⟨g, o, none⟩ h.1
theorem FIn.keep {w w' : World} {g o : Nat} {vf vb : Value} {f b : List Ky} (h : FIn w g o vf vb f b) (hc : ∀ j, w'.cell? ⟨g, j, none⟩ = w.cell? ⟨g, j, none⟩) (hf : ∀ j, w'.frozen? ⟨g, j, none⟩ = w.frozen? ⟨g, j, none⟩)
    (hb : ∀ r, vf.ownBlock = some r ∨ vb.ownBlock = some r → w'.heap[r]? = w.heap[r]?) : FIn w' g o vf vb f b := by
  obtain ⟨h1, h2, h3, h4, h5, h6, h7⟩ := h
  exact ⟨(hc _).trans h1, (hc _).trans h2, (hf _).trans h3, (hf _).trans h4, h5.block fun r hr => hb r (.inl hr), h6.block fun r hr => hb r (.inr hr), h7⟩
theorem FIn.below {w w' : World} {g o : Nat} {vf vb : Value} {f b : List Ky} (h : FIn w g o vf vb f b) (hb : Below w.heap.size w w') : FIn w' g o vf vb f b :=
  h.keep (fun j => hb.cell (p := ⟨g, j, none⟩) h.lt) (fun j => hb.frozen (p := ⟨g, j, none⟩) h.lt) (fun r hr => hb.block r (by
    obtain ⟨_, _, _, _, h5, h6, _⟩ := h
    exact hr.elim h5.lt h6.lt))

theorem news_new (w : World) (cs : Array Value) (T B : Nat) (hB : w.heap.size = B) : ∀ j u, cs.toList[j]? = some u → (w.alloc (.cells cs T)).cell? ((⟨B, 0, none⟩ : Addr).add j) = some u := by
  subst hB
  exact World.news_of_block (heap_alloc_new _ _)
end

end Go.Proofs.YtfegielnmdppgaaGreat
