/- Bytes and strings: string(b), append(b, s...), bytes.Equal, journal.sum. -/
import Derived.Test.YtfnabpmdjfejbaaDoorJZigPut
import Derived.Test.YtfnabpmdjfejbaaDoorJSum
import Derived.Lib.AppendStr
import Derived.Laws.IdiomStrings
namespace Go.Proofs.YtfnabpmdjfejbaaDoor
set_option linter.unusedSimpArgs false
set_option linter.unusedVariables false
open Go.RowKit Go.Lib

theorem RowIn.byte {w : World} {A : Option Addr} {c : Nat} {l : List UInt8} (h : RowIn 1 byteC w (.slice A l.length c) l) (hl : l ≠ []) : ∃ b o, A = some ⟨b, o, none⟩ ∧ b < w.heap.size ∧ ∀ j (hj : j < l.length), w.cell? ⟨b, o + j, none⟩ = some (.int .u8 (l[j].toNat : Nat)) := by
  have h0 : 0 < l.length := by cases l with | nil => exact absurd rfl hl | cons => simp
  obtain ⟨b, o, rfl, hb, hc⟩ := h.at_ h0
  refine ⟨b, o, rfl, hb, fun j hj => ?_⟩
  obtain ⟨b', o', e, _, hc'⟩ := h.at_ hj
  simp only [Option.some.injEq, Addr.mk.injEq] at e
  obtain ⟨rfl, rfl, -⟩ := e
  have := hc' 0 _ rfl
  rw [Nat.add_zero, Nat.mul_one] at this
  exact this
/-- string(b). -/
theorem bytes_str {w : World} {v : Value} {l : List UInt8} (h : RowIn 1 byteC w v l) : (Go.convert 27 9 v).run Tryd.prog w = .ok (.string ⟨l.toArray⟩) w := by
  obtain ⟨A, c, rfl⟩ := h.form
  by_cases hl : l = []
  · subst hl
    rw [run_convert_bytes_string w _ _ 5 A _ c Tryd.underlying27 Tryd.underlying5 Tryd.underlying9]
    cases A with
    | none => simp [Conv.bytesToString]; rfl
    | some a =>
      have h0 : (loadCells a 0).run Tryd.prog w = .ok #[] w := by
        have := run_loadCells_list (P := Tryd.prog) w a [] (fun j v hj => by simp at hj)
        simpa using this
      have := run_bytesToString (P := Tryd.prog) w a 0 c [] (by simpa using h0)
      rw [List.length_nil, this]
      rfl
  · obtain ⟨b, o, rfl, _, hc⟩ := h.byte hl
    exact run_convert_bytes_back w _ _ 5 ⟨b, o, none⟩ c l Tryd.underlying27 Tryd.underlying5 Tryd.underlying9 (fun j hj => by
      have hplain : (⟨b, o, none⟩ : Addr).add j = ⟨b, o + j, none⟩ := by unfold Addr.add; split <;> simp_all
      rw [hplain]
      exact hc j hj)
theorem cellsOf_bytes (l : List UInt8) : cellsOfRow byteC l = l.map (fun b => Value.int .u8 (b.toNat : Nat)) := by
  induction l with
  | nil => rfl
  | cons a l ih => simp only [cellsOfRow, List.flatMap_cons, List.map_cons] at ih ⊢; rw [ih]; rfl
theorem strCells_bytes (s : ByteArray) : strCells s = cellsOfRow byteC s.data.toList := by
  rw [cellsOf_bytes]
  rfl
set_option maxRecDepth 100000 in
/-- append(b, s...). -/
theorem wpList_appendS {w : World} {ops : Array Oper} {rest : List Oper} {o : Oper} {a : Act} {Q : Exit → Act → World → Prop} (hgd : o.guard = none) {sl x : Operand}
    (ho : o.op = .call { callee := .builtin .append, args := #[sl, x], argTypes := #[27, 9] }) (base : Nat) (l : List UInt8) (s : ByteArray) (v : Value) (hs : a.eval sl = v) (hx : a.eval x = .string s)
    (hown : OwnL byteC 5 1 base w v l) (hlen : l.length + s.size ≤ 100000000) (hbase : base ≤ w.heap.size)
    (h : ∀ (out : List UInt8) A c w', out = l ++ s.data.toList → OwnL byteC 5 1 base w' (.slice A out.length c) out → w.grownBy w' v.ownBlock → wpList Tryd.prog ops Q rest (a.put o.dst (.slice A out.length c)) w') :
    wpList Tryd.prog ops Q (o :: rest) a w := by
  obtain ⟨i0, hi0, hz0, hz1, hz2⟩ := info_parts eByte.hi
  refine wpList_append_own_string w hgd sl x _ _ ho base 5 i0 Tryd.underlying27 Tryd.underlying9 hi0 hz0 hz1 hz2 v l.length (cellsOfRow byteC l) hs hown s hx (by unfold maxLen; omega) (by omega) hbase ?_
  intro v' w' h1 h2 _
  have e1 : l.length + s.size = (l ++ s.data.toList).length := by simp
  have e2 : cellsOfRow byteC l ++ strCells s = cellsOfRow byteC (l ++ s.data.toList) := by rw [strCells_bytes]; simp [cellsOfRow]
  rw [e1, e2] at h1
  obtain ⟨A, c, rfl⟩ := OwnL.form (f := byteC) (l := l ++ s.data.toList) h1
  exact h _ A c w' rfl h1 h2

set_option maxRecDepth 100000 in
set_option maxHeartbeats 4000000 in
theorem bytesEqual_any (va vb : Value) (a b : List UInt8) (w : World) (ha : RowIn 1 byteC w va a) (hb : RowIn 1 byteC w vb b) :
    Calls Tryd.prog 33 #[va, vb] w fun e w' => e = .returned (.bool (a == b)) ∧ Below w.heap.size w w' := by
  have h1 := bytes_str ha
  have h2 := bytes_str hb
  obtain ⟨A, c, rfl⟩ := ha.form
  obtain ⟨B, d, rfl⟩ := hb.form
  clear ha hb
  go_enter Tryd.func33, Tryd.ntmps33
  go_wp2
  go_ret
  exact ⟨rfl, Below.refl _ _⟩
end Go.Proofs.YtfnabpmdjfejbaaDoor
