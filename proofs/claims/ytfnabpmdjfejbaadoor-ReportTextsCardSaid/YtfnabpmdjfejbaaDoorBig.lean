/- Great structs: their cells are loaded and stored as one list that is not looked into. -/
import Derived.Test.YtfnabpmdjfejbaaDoorSeqs
import Derived.Deep.MidRow
import Derived.Deep.WholeRow
import Derived.Great.BuildSlice
namespace Go.Proofs.YtfnabpmdjfejbaaDoor
set_option linter.unusedSimpArgs false
set_option linter.unusedVariables false
open Go.RowKit Go.Lib

section
variable {P : Program}
/-- A whole struct is stored into the block that was made last. -/
theorem store_new (w : World) (t : TypeId) (cs : List Value) (n : Nat) (hn : cs.length = n) (hi : (P.info? t).map (·.size) = some n) (h1 : ∀ v ∈ cs, v.oneCell' = true) (c : Array Value) (ho : c.size = n) :
    (storeCells ⟨w.heap.size, 0, none⟩ cs).run P (w.alloc (.cells c t)) = .ok () (w.alloc (.cells cs.toArray t)) := by
  have := run_storeCells_new (P := P) w t c cs.toArray (by rw [List.size_toArray, hn]; exact hi) (by simp; omega) (all_oneCell_toArray h1)
  simpa using this
/-- The element of a slice is loaded as a list of cells. -/
theorem wpList_load_list {ops : Array Oper} {rest : List Oper} {op : Oper} {a : Act} {w : World} {Q : Exit → Act → World → Prop} (hgd : op.guard = none) (ty : TypeId) (x : Operand) (ho : op.op = .load ty x)
    (b o : Nat) (cs : List Value) (hc : ∀ j v, cs[j]? = some v → w.cell? ⟨b, o + j, none⟩ = some v) (hx : a.eval x = .pointer (some ⟨b, o, none⟩)) (d : TypeDesc)
    (hu : P.underlying ty = some d) (hd : d.isRow = true) (hi : (P.info? ty).map (·.size) = some cs.length)
    (h : wpList P ops Q rest (a.put op.dst (.agg cs.toArray)) w) : wpList P ops Q (op :: rest) a w :=
  wpList_load_mid hgd ty x ho b o hx cs d hc hu hd hi h
theorem new_cells (w : World) (cs : List Value) (T : TypeId) : ∀ j v, cs[j]? = some v → (w.alloc (.cells cs.toArray T)).cell? ⟨w.heap.size, 0 + j, none⟩ = some v := by
  intro j v hj
  rw [Nat.zero_add, cell_of_row _ _ j cs.toArray T (0, 0) (heap_alloc_last w _)]
  simpa using hj
end
/-- A slice literal of one struct. -/
theorem build_one {α : Type} {t e : TypeId} {n bytes : Nat} {z : Value} {f : α → List Value} (E : EltOf t e n bytes z f) (hn : n ≤ 1000) (cs : List Value) (hcs : cs.length = n) (w : World) :
    (Instr.buildSlice t 1 #[(0, .agg cs.toArray)]).run Tryd.prog w = .ok (.slice (some ⟨w.heap.size, 0, none⟩) 1 1) (w.alloc (.cells cs.toArray e)) := by
  have hi := E.hi
  have hz := E.hz
  have h0 := E.hn
  cases hq : Tryd.prog.info? e with
  | none => simp [hq] at hi
  | some ie =>
    simp only [hq, Option.map_some, Option.some.injEq, Prod.mk.injEq] at hi
    obtain ⟨h1, h2, h3⟩ := hi
    refine run_buildSlice w t e 1 _ cs.toArray ie z E.ht hq h1 (by rw [h2]; omega) (by rw [h2]; omega) ?_
    have := Great.fill_whole (s := n) h0 [.agg cs.toArray] ((Array.range (1 * n)).map (z.cells[· % z.cells.size]!)) (by simp [Value.cells, hcs]) (by simp)
    rw [h2]
    simpa [Value.cells] using this
theorem wpList_build_one {α : Type} {t e : TypeId} {n bytes : Nat} {z : Value} {f : α → List Value} (E : EltOf t e n bytes z f) (hn : n ≤ 1000) {ops : Array Oper} {rest : List Oper} {o : Oper} {a : Act} {w : World} {Q : Exit → Act → World → Prop} (hg : o.guard = none)
    (x : Operand) (ho : o.op = .buildSlice t 1 #[(0, x)]) (cs : List Value) (hcs : cs.length = n) (hx : a.eval x = .agg cs.toArray)
    (h : wpList Tryd.prog ops Q rest (a.put o.dst (.slice (some ⟨w.heap.size, 0, none⟩) 1 1)) (w.alloc (.cells cs.toArray e))) : wpList Tryd.prog ops Q (o :: rest) a w :=
  wpList_plain hg fun _ hK => by
    unfold Oper.wp execOp
    simp only [ho, hx, Sem.run_bind, List.map_toArray, List.map_cons, List.map_nil, build_one E hn cs hcs w, Result.andThen_ok]
    exact hK _ _ h
end Go.Proofs.YtfnabpmdjfejbaaDoor
