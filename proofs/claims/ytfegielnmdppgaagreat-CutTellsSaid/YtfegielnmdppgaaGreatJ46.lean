/- chapter 19's has: a node has just a load; A whole row is stored into a block; A world behind a body is named; Great structs: their cells are loaded and stored as one list that is not looked into; Boxes of numbers of 128 bits: they are loaded and stored as one list. -/
import Derived.Test.YtfegielnmdppgaaGreatJ12
import Derived.Test.YtfegielnmdppgaaGreatJ31
import Derived.Test.YtfegielnmdppgaaGreatJ04
import Derived.Test.YtfegielnmdppgaaGreatJ01
import Derived.Test.YtfegielnmdppgaaGreatJ02
import Derived.Deep.MidRow
import Derived.Deep.WholeRow
import Derived.Great.BuildSlice
import Derived.Test.YtfegielnmdppgaaGreatJ40
import Derived.Test.YtfegielnmdppgaaGreatJ41
import Derived.Deep.DeepCutAuto
namespace Go.Proofs.YtfegielnmdppgaaGreat

section
set_option linter.unusedSimpArgs false
set_option linter.unusedVariables false
open Go.RowKit Go.Lib Go.Sort

set_option maxRecDepth 100000 in
set_option maxHeartbeats 8000000 in
theorem has19_core (N : Nat) (y : Nd) (rs rh : Nat) (fp : List Nat) (sA pA : Option Addr) (sc pc : Nat) (ver : Int) (w : World) (hn : NodeIn w N y rs rh fp) (hrs : rs ≤ 256) (hrh : rh ≤ 64)
    (h1 : RowIn 2 smpC w (.slice sA y.smp.length sc) y.smp) (h2 : RowIn 5 advC w (.slice pA y.past.length pc) y.past) :
    Calls Tryz.prog 22 #[.pointer (some ⟨N, 0, none⟩), .agg #[.slice sA y.smp.length sc, .slice pA y.past.length pc, .int .i64 y.pol.mn, .int .i64 y.pol.mx, .int .i64 y.pol.tg, .int .i64 y.pol.tol, .int .i64 y.pol.win, .int .i64 y.pol.hold, .bool y.ruled, .int .i64 ver]] w fun e w' => e = .returned (.bool true) ∧ Below w.heap.size w w' := by
  have HN := Lib.hid hn
  have H1 := Lib.hid h1
  have H2 := Lib.hid h2
  have hl1 : y.smp.length ≤ 1000000 := by obtain ⟨_, _, _, _, _, _, _, _, _, _, _, _, h8⟩ := hn; omega
  have hl2 : y.past.length ≤ 1000000 := by obtain ⟨_, _, _, _, _, _, hh, _⟩ := hn; have := hh.len; omega
  have HL1 := Lib.hid hl1
  have HL2 := Lib.hid hl2
  clear hn h1 h2 hl1 hl2
  go_enter Tryz.func22, Tryz.ntmps22
  go_wp2_with (first
    | (go_at_call 73
       refine calls_named ?_
       intro W1 hW1
       have hb1 : Below w.heap.size w W1 := by rw [hW1]; exact balloc (Below.refl _ _) _
       have ho1 : W1.heap[w.heap.size]? = some (.cells #[.slice sA y.smp.length sc, .slice pA y.past.length pc, .int .i64 y.pol.mn, .int .i64 y.pol.mx, .int .i64 y.pol.tg, .int .i64 y.pol.tol, .int .i64 y.pol.win, .int .i64 y.pol.hold, .bool y.ruled, .int .i64 ver] 68 (0, 0)) := by rw [hW1]; exact heap_alloc_new _ _
       clear hW1
       refine (nodePolicy_any N y rs rh fp W1 (HN.out.below hb1)).mono ?_
       rintro e w2 ⟨rfl, hb2⟩
       have hO2 := (hb2.block _ (Array.getElem?_eq_some_iff.1 ho1).1).trans ho1
       have HO2 := Lib.hid hO2
       have HB2 := Lib.hid (bthen hb1 hb2)
       clear hb1 hb2 ho1 hO2))
  refine name_world ?_
  intro W hW
  have hb0 : Below w.heap.size w W := by rw [hW]; exact bthen HB2.out (balloc (Below.refl _ _) _)
  have hp : W.heap[w2.heap.size]? = some (.cells #[.int .i64 y.pol.mn, .int .i64 y.pol.mx, .int .i64 y.pol.tg, .int .i64 y.pol.tol, .int .i64 y.pol.win, .int .i64 y.pol.hold] 44 (0, 0)) := by rw [hW]; exact heap_alloc_new _ _
  have hx := ((show Below w2.heap.size w2 W by rw [hW]; exact balloc (Below.refl _ _) _).block _ (Array.getElem?_eq_some_iff.1 HO2.out).1).trans HO2.out
  clear hW
  have HW := Lib.hid hb0
  have HX := Lib.hid hx
  have HP := Lib.hid hp
  have rl : ∀ U, Below W.heap.size W U → (∀ j, U.cell? ⟨w.heap.size, j, none⟩ = (#[.slice sA y.smp.length sc, .slice pA y.past.length pc, .int .i64 y.pol.mn, .int .i64 y.pol.mx, .int .i64 y.pol.tg, .int .i64 y.pol.tol, .int .i64 y.pol.win, .int .i64 y.pol.hold, .bool y.ruled, .int .i64 ver] : Array Value)[j]?) := fun U hU => (box_cells hU HX.out).1
  have rp : ∀ U, Below W.heap.size W U → (∀ j, U.cell? ⟨w2.heap.size, j, none⟩ = (#[.int .i64 y.pol.mn, .int .i64 y.pol.mx, .int .i64 y.pol.tg, .int .i64 y.pol.tol, .int .i64 y.pol.win, .int .i64 y.pol.hold] : Array Value)[j]?) := fun U hU => (box_cells hU HP.out).1
  clear hb0 hx hp
  have hS00 : Below W.heap.size W W := Below.refl _ _
  have hS0 : Below W.heap.size W W.drew := hS00.drew
  go_region_held3 (fun U => Below W.heap.size W U)
    (first
      | with_reducible exact hS0
      | with_reducible exact HB7.out
      | with_reducible exact HB6.out
      | with_reducible exact HB5.out
      | with_reducible exact HB4.out)
    (first
      | (go_at_call 71
         refine (nodeSamples_any N y rs rh fp _ (HN.out.below (bthen HW.out ‹Below W.heap.size W _›)) hrs).mono ?_
         rintro e w4 ⟨A, c, fq, rfl, hq, hf, hb⟩
         have hb4 := bthen ‹Below W.heap.size W _› hb
         have HQ4 := Lib.hid (hq.row eSmp)
         have HB4 := Lib.hid hb4
         clear hq hf hb hb4)
      | (go_at_call 74
         refine calls_named ?_
         intro W5 hW5
         have hb5 : Below w4.heap.size w4 W5 := by rw [hW5]; repeat (first | exact Below.refl _ _ | refine Below.drew ?_)
         clear hW5
         refine (r8same_any _ _ y.smp W5 (HQ4.out.below hb5) (H1.out.below (bthen HW.out (bthen HB4.out hb5))) HL1.out).mono ?_
         rintro e w5 ⟨rfl, hb⟩
         have HB5 := Lib.hid (bthen HB4.out (bthen hb5 hb))
         clear hb5 hb)
      | (go_at_call 76
         refine (nodePast_any N y rs rh fp _ (HN.out.below (bthen HW.out ‹Below W.heap.size W _›)) hrh).mono ?_
         rintro e w6 ⟨A6, c6, fq6, rfl, hq, hf, hb⟩
         have hb4 := bthen ‹Below W.heap.size W _› hb
         have HQ6 := Lib.hid (hq.row eAdv)
         have HB6 := Lib.hid hb4
         clear hq hf hb hb4)
      | (go_at_call 75
         refine calls_named ?_
         intro W5 hW5
         have hb5 : Below w6.heap.size w6 W5 := by rw [hW5]; repeat (first | exact Below.refl _ _ | refine Below.drew ?_)
         clear hW5
         refine (r14same_any _ _ y.past W5 (HQ6.out.below hb5) (H2.out.below (bthen HW.out (bthen HB6.out hb5))) HL2.out).mono ?_
         rintro e w7 ⟨rfl, hb⟩
         have HB7 := Lib.hid (bthen HB6.out (bthen hb5 hb))
         clear hb5 hb))
  all_goals go_wp2
  all_goals go_ret
  all_goals exact ⟨rfl, bthen HW.out HB7.out⟩

theorem nhas19_any (P : Nat → Prop) (N : Nat) (y : Nd) (rs rh : Nat) (fp : List Nat) (x : It) (w : World) (hn : NodeIn w N y rs rh fp) (hrs : rs ≤ 256) (hrh : rh ≤ 64) (hx : LoadIn P w x) (hs : sameN y x.nd) :
    Calls Tryz.prog 22 #[.pointer (some ⟨N, 0, none⟩), .agg #[.slice x.sA x.nd.smp.length x.sc, .slice x.pA x.nd.past.length x.pc, .int .i64 x.nd.pol.mn, .int .i64 x.nd.pol.mx, .int .i64 x.nd.pol.tg, .int .i64 x.nd.pol.tol, .int .i64 x.nd.pol.win, .int .i64 x.nd.pol.hold, .bool x.nd.ruled, .int .i64 (x.nd.ver : Nat)]] w fun e w' => e = .returned (.bool true) ∧ Below w.heap.size w w' := by
  obtain ⟨h1, h2, h3, h4⟩ := hs
  have hx1 := hx.1.1
  have hx2 := hx.2.1
  rw [← h1] at hx1
  rw [← h2] at hx2
  rw [← h1, ← h2, ← h3, ← h4]
  exact has19_core N y rs rh fp _ _ _ _ _ w hn hrs hrh hx1 hx2
end

section
set_option linter.unusedSimpArgs false
set_option linter.unusedVariables false
open Go.RowKit Go.Lib

def stor (w : World) (B i : Nat) : List Value → World
  | [] => w
  | v :: vs => stor (w.setCell ⟨B, i, none⟩ v) B (i + 1) vs
theorem stor_one {w : World} {B i : Nat} {cs : Array Value} {T : TypeId} {fr : Nat × Nat} {v : Value} (h : w.heap[B]? = some (.cells cs T fr)) : (w.setCell ⟨B, i, none⟩ v).heap[B]? = some (.cells (cs.setIfInBounds i v) T fr) := by
  obtain ⟨hlt, hk⟩ := Array.getElem?_eq_some_iff.1 h
  show (w.heap.modify B _)[B]? = _
  rw [Array.getElem?_eq_getElem (by rw [Array.size_modify]; exact hlt), Array.getElem_modify_self, hk]
  simp
theorem stor_other {w : World} {B i k : Nat} {v : Value} (h : k ≠ B) : (w.setCell ⟨B, i, none⟩ v).heap[k]? = w.heap[k]? := by
  show (w.heap.modify B _)[k]? = _
  by_cases hk : k < w.heap.size
  · rw [Array.getElem?_eq_getElem (by rw [Array.size_modify]; exact hk), Array.getElem_modify_of_ne (Ne.symm h), Array.getElem?_eq_getElem hk]
  · rw [Array.getElem?_eq_none (by rw [Array.size_modify]; omega), Array.getElem?_eq_none (by omega)]
theorem stor_all : ∀ (vs : List Value) (w : World) (B i : Nat) (cs : Array Value) (T : TypeId), w.heap[B]? = some (.cells cs T (0, 0)) → cs.size = i + vs.length →
    (stor w B i vs).heap[B]? = some (.cells ((cs.toList.take i ++ vs).toArray) T (0, 0)) ∧ (∀ k, k ≠ B → (stor w B i vs).heap[k]? = w.heap[k]?) ∧ (stor w B i vs).heap.size = w.heap.size ∧ ∀ n, n ≤ B → Below n w (stor w B i vs) := by
  intro vs
  induction vs with
  | nil =>
    intro w B i cs T h hn
    refine ⟨?_, fun _ _ => rfl, rfl, fun n _ => Below.refl _ _⟩
    simp only [List.length_nil, Nat.add_zero] at hn
    rw [stor, h, List.append_nil, List.take_of_length_le (by simp; omega)]
  | cons v vs ih =>
    intro w B i cs T h hn
    simp only [List.length_cons] at hn
    have h1 := stor_one (i := i) (v := v) h
    obtain ⟨a1, a2, a3, a4⟩ := ih (w.setCell ⟨B, i, none⟩ v) B (i + 1) _ T h1 (by simp; omega)
    refine ⟨?_, fun k hk => (a2 k hk).trans (stor_other hk), a3.trans (by simp [World.setCell]), fun n hn => ((Below.refl _ _).setCell hn _).trans (a4 n hn)⟩
    rw [stor, a1]
    congr 3
    rw [Array.toList_setIfInBounds, List.take_add_one, List.take_set_of_le (Nat.le_refl _)]
    rw [List.getElem?_set_self (by simp; omega)]
    simp
theorem stor_at {w : World} {B : Nat} {cs : Array Value} {T : TypeId} (h : w.heap[B]? = some (.cells cs T (0, 0))) (vs : List Value) (hn : cs.size = vs.length) : ∀ W, W = stor w B 0 vs →
    W.heap[B]? = some (.cells vs.toArray T (0, 0)) ∧ (∀ k, k ≠ B → W.heap[k]? = w.heap[k]?) ∧ W.heap.size = w.heap.size ∧ ∀ n, n ≤ B → Below n w W := by
  rintro W rfl
  have := stor_all vs w B 0 cs T h (by omega)
  simpa using this
end

section
set_option linter.unusedSimpArgs false
set_option linter.unusedVariables false
end

section
set_option linter.unusedSimpArgs false
set_option linter.unusedVariables false
open Go.RowKit Go.Lib

section
variable {P : Program}
/-- A whole struct is stored into the block that was made last. -/
theorem store_new (w : World) (t : TypeId) (cs : List Value) (n : Nat) (hn : cs.length = n) (hi : (P.info? t).map (·.size) = some n) (h1 : ∀ v ∈ cs, v.oneCell' = true) (c : Array Value) (ho : c.size = n) :
    (storeCells ⟨w.heap.size, 0, none⟩ cs).run P (w.alloc (.cells c t)) = .ok () (w.alloc (.cells cs.toArray t)) := by
  have := run_storeCells_new (P := P) w t c cs.toArray (by rw [List.size_toArray, hn]; exact hi) (by simp; omega) (all_oneCell_toArray h1)
  simpa using this
/-- The element of a slice is loaded as a list of cells. -/
theorem wpList_load_list {ops : Array Oper} {rest : List Oper} {op : Oper} {a : Act} {w : World} {Q : Exit → Act → World → Prop} (hgd : op.guard = none) (ty : TypeId) (x : Operand) (ho : op.op = .load ty x)
    (b o : Nat) (cs : List Value) (hc : ∀ j v, cs[j]? = some v → w.cell? ⟨b, o + j, none⟩ = some v) (hx : a.eval x = .pointer (some ⟨b, o, none⟩)) (d : TypeDesc)
    (hu : P.underlying ty = some d) (hd : d.isRow = true) (hi : (P.info? ty).map (·.size) = some cs.length)
    (h : wpList P ops Q rest (a.put op.dst (.agg cs.toArray)) w) : wpList P ops Q (op :: rest) a w :=
  wpList_load_mid hgd ty x ho b o hx cs d hc hu hd hi h
end
end

section
set_option linter.unusedSimpArgs false
set_option linter.unusedVariables false
open Go.RowKit Go.Lib

theorem zero_bits : Tryz.zeroCells258 = (bitsL fun _ => false).toArray := by kernel_rfl
theorem num_size (f : Nat → Bool) : (Tryz.prog.info? 258).map (·.size) = some (bitsL f).length := by rw [bitsL_len]; kernel_rfl
theorem num_sizeA (f : Nat → Bool) : (Tryz.prog.info? 258).map (·.size) = some (bitsL f).toArray.size := by rw [List.size_toArray, bitsL_len]; kernel_rfl
theorem bits_one (f : Nat → Bool) : (bitsL f).toArray.all (·.oneCell') = true := all_oneCell_toArray (fun v hv => by
  obtain ⟨j, _, rfl⟩ := List.mem_map.1 hv
  rfl)
/-- A box of bits. -/
def BitB (w : World) (B : Nat) (f : Nat → Bool) : Prop := w.heap[B]? = some (.cells (bitsL f).toArray 258 (0, 0))
theorem BitB.cell {w : World} {B : Nat} {f : Nat → Bool} (h : BitB w B f) {i : Nat} (hi : i < 128) : w.cell? ⟨B, i, none⟩ = some (.bool (f i)) ∧ w.frozen? ⟨B, i, none⟩ = false := by
  obtain ⟨h1, h2, _⟩ := box_cells (Below.refl w.heap.size w) h
  refine ⟨?_, h2 i⟩
  rw [h1 i]
  simpa using bitsL_get f i hi
theorem BitB.range {w : World} {B : Nat} {f : Nat → Bool} (h : BitB w B f) : ∀ j v, (bitsL f)[j]? = some v → w.cell? ⟨B, 0 + j, none⟩ = some v := fun j v hj => by
  obtain ⟨h1, _, _⟩ := box_cells (Below.refl w.heap.size w) h
  rw [Nat.zero_add, h1 j]
  simpa using hj
theorem BitB.set {w : World} {B : Nat} {f : Nat → Bool} (h : BitB w B f) {i : Nat} (hi : i < 128) (b : Bool) : BitB (w.setCell ⟨B, i, none⟩ (.bool b)) B (updB f i b) := by
  have := setCell_block (i := i) (v := .bool b) h
  unfold BitB
  rw [this, List.setIfInBounds_toArray, bitsL_set f i b hi]
theorem BitB.ne {w : World} {B C i : Nat} {v : Value} {f : Nat → Bool} (h : BitB w B f) (hn : B ≠ C) : BitB (w.setCell ⟨C, i, none⟩ v) B f := heap_set_ne h hn
theorem BitB.below {w w' : World} {B : Nat} {f : Nat → Bool} (h : BitB w B f) (hb : Below w.heap.size w w') : BitB w' B f := (hb.block _ (Array.getElem?_eq_some_iff.1 h).1).trans h
theorem BitB.there {w : World} {B : Nat} {f : Nat → Bool} (h : BitB w B f) (g : Nat → Bool) : w.there B 0 (bitsL g).toArray.size := fun j hj => by
  rw [List.size_toArray, bitsL_len] at hj
  obtain ⟨h1, h2⟩ := h.cell hj
  rw [Nat.zero_add]
  exact ⟨by rw [h1]; rfl, h2⟩
theorem setCells_stor : ∀ (vs : List Value) (w : World) (B i : Nat), w.setCells B i vs = stor w B i vs
  | [], w, B, i => rfl
  | v :: vs, w, B, i => setCells_stor vs _ B (i + 1)
theorem BitB.store {w : World} {B : Nat} {f : Nat → Bool} (h : BitB w B f) (g : Nat → Bool) : BitB (w.setCells B 0 (bitsL g)) B g ∧ (∀ k, k ≠ B → (w.setCells B 0 (bitsL g)).heap[k]? = w.heap[k]?) ∧ ∀ n, n ≤ B → Below n w (w.setCells B 0 (bitsL g)) := by
  obtain ⟨a, b, _, d⟩ := stor_at h (bitsL g) (by simp [bitsL_len]) _ (setCells_stor (bitsL g) w B 0)
  exact ⟨a, b, d⟩
theorem BitB.load {w : World} {B : Nat} {f : Nat → Bool} (h : BitB w B f) : (loadVar 258 ⟨B, 0, none⟩).run Tryz.prog w = .ok (.agg (bitsL f).toArray) w :=
  run_loadVar_mid w B 0 258 (bitsL f) _ h.range Tryz.underlying258 rfl (num_size f)
theorem bit_new (w : World) (f : Nat → Bool) : BitB (w.alloc (.cells (bitsL f).toArray 258)) w.heap.size f := heap_alloc_new _ _
end

end Go.Proofs.YtfegielnmdppgaaGreat
