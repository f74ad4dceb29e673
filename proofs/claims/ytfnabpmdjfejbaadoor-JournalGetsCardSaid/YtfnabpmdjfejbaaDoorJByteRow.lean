/- Bytes as they come in. -/
import Derived.Test.YtfnabpmdjfejbaaDoorCallRow
import Derived.Test.YtfnabpmdjfejbaaDoorJZig
namespace Go.Proofs.YtfnabpmdjfejbaaDoor
set_option linter.unusedSimpArgs false
set_option linter.unusedVariables false
open Go.RowKit Go.Lib Go.ChangeShapes Go.WideShapes Go.Joins

theorem cl_u8 : Tryd.prog.cellsOf 5 = 1 := by kernel_rfl
theorem byte_of_wf {n : Int} (h : (Lit.int .u8 n).wf = true) : 0 ≤ n ∧ n < 256 := by
  have : 0 ≤ n ∧ n ≤ 255 := by simpa [Lit.wf, IntKind.min, IntKind.max, IntKind.signed, IntKind.bits] using h
  omega
section
variable {H : Type} {enc : TypeId × Value → H} {w : World} {base : Nat} {spare : Nat → Bool} {held : Bool}
theorem byte_reads {fuel : Nat} {cs : List Value} {x : DataW H × List MemPlace} (h : DataW.trod enc Tryd.prog w base spare held fuel 5 cs = some x) : ∃ b : UInt8, True ∧ cs = byteC b := by
  obtain ⟨n, rfl, _, hw⟩ := DataW.trod_int Tryd.underlying5 h
  obtain ⟨h1, h2⟩ := byte_of_wf hw
  refine ⟨UInt8.ofNat n.toNat, trivial, ?_⟩
  unfold byteC
  rw [show ((UInt8.ofNat n.toNat).toNat : Int) = n by simp [UInt8.toNat_ofNat]; omega]
theorem bytes_row {fuel : Nat} {cs : List Value} {x : DataW H × List MemPlace} (h : DataW.trod enc Tryd.prog w base spare held fuel 27 cs = some x) : ∃ (v : Value) (l : List UInt8), cs = [v] ∧ l.length ≤ maxLen ∧ RowIn 1 byteC w v l := by
  obtain ⟨v, l, h1, h2, _, h4⟩ := row_read (f := byteC) (ok := fun _ => True) Tryd.underlying27 cl_u8 (by decide) (fun fuel cs x h => byte_reads h) h
  exact ⟨v, l, h1, h2, h4⟩
end
end Go.Proofs.YtfnabpmdjfejbaaDoor
