/- Lists of calls in memory. -/
import Derived.Test.YtfnabpmdjfejbaaDoorSeqs
import Derived.Test.YtfnabpmdjfejbaaDoorCallPlain
namespace Go.Proofs.YtfnabpmdjfejbaaDoor
set_option linter.unusedSimpArgs false
set_option linter.unusedVariables false
open Go.RowKit Go.Lib

theorem eCall : EltOf 59 25 11 96 (.agg #[.int .i64 0, .string ⟨#[]⟩, .int .i64 0, .int .i64 0, .int .i64 0, .int .i64 0, .int .i64 0, .int .i64 0, .int .i64 0, .int .i64 0, .int .i64 0]) callCells :=
  ⟨by kernel_rfl, by kernel_rfl, rfl, by decide, by decide, fun _ => rfl, fun x u hu => by
    simp only [callCells, List.mem_cons, List.not_mem_nil, or_false] at hu
    rcases hu with rfl | rfl | rfl | rfl | rfl | rfl | rfl | rfl | rfl | rfl | rfl <;> rfl⟩

/-- A call's cells at a place. -/
def CallIn (w : World) (b o : Nat) (x : CallD) : Prop :=
  w.cell? ⟨b, o, none⟩ = some (.int .i64 x.kind) ∧ w.cell? ⟨b, o + 1, none⟩ = some (.string x.id) ∧ w.cell? ⟨b, o + 2, none⟩ = some (.int .i64 x.tick) ∧ w.cell? ⟨b, o + 3, none⟩ = some (.int .i64 x.val) ∧ w.cell? ⟨b, o + 4, none⟩ = some (.int .i64 x.handle) ∧
  w.cell? ⟨b, o + 5, none⟩ = some (.int .i64 x.pol.mn) ∧ w.cell? ⟨b, o + 6, none⟩ = some (.int .i64 x.pol.mx) ∧ w.cell? ⟨b, o + 7, none⟩ = some (.int .i64 x.pol.tg) ∧ w.cell? ⟨b, o + 8, none⟩ = some (.int .i64 x.pol.tol) ∧ w.cell? ⟨b, o + 9, none⟩ = some (.int .i64 x.pol.win) ∧ w.cell? ⟨b, o + 10, none⟩ = some (.int .i64 x.pol.hold)

theorem calls_at {w : World} {A : Option Addr} {m c : Nat} {l : List CallD} (h : RowIn 11 callCells w (.slice A m c) l) {k : Nat} (hk : k < l.length) :
    ∃ b o, A = some ⟨b, o, none⟩ ∧ b < w.heap.size ∧ ∀ W, Below w.heap.size w W → CallIn W b (o + k * 11) l[k] := by
  obtain ⟨b, o, hA, hb, hc⟩ := h.at_ hk
  have hW : ∀ W, Below w.heap.size w W → ∀ j u, (callCells l[k])[j]? = some u → W.cell? ⟨b, o + k * 11 + j, none⟩ = some u := fun W hW j u hu => (hW.cell (p := ⟨b, _, none⟩) hb).trans (hc j u hu)
  exact ⟨b, o, hA, hb, fun W h => ⟨hW W h 0 _ rfl, hW W h 1 _ rfl, hW W h 2 _ rfl, hW W h 3 _ rfl, hW W h 4 _ rfl, hW W h 5 _ rfl, hW W h 6 _ rfl, hW W h 7 _ rfl, hW W h 8 _ rfl, hW W h 9 _ rfl, hW W h 10 _ rfl⟩⟩

end Go.Proofs.YtfnabpmdjfejbaaDoor
