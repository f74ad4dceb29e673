/- a stripe's Get and Version. -/
import Derived.Test.YtfnabpmdjfejbaaGreatJ40
namespace Go.Proofs.YtfnabpmdjfejbaaGreat

section
set_option linter.unusedSimpArgs false
set_option linter.unusedVariables false
open Go.RowKit Go.Lib Go.Sort
open Go.ChangeMaps (setBlock)

def nptr (o : Option NE) : Option Addr := o.map fun b => ⟨b.1, 0, none⟩
theorem nptr_get (o : Option NE) : (o.map neV).getD (.pointer none) = .pointer (nptr o) := by cases o <;> rfl

set_option maxRecDepth 100000 in
set_option maxHeartbeats 4000000 in
theorem sget_any (T M : Nat) (c : Cfg) (ver : Nat) (es : List (KO × NE)) (rs rh : Nat) (k : KO) (w : World) (h : SAt w T M c ver es rs rh) :
    Calls Tryz.prog 15 #[.pointer (some ⟨T, 0, none⟩), .agg #[.int .u64 k.1.1, .int .u64 k.1.2]] w fun e w' => e = .returned (.pointer (nptr (findM es k))) ∧ Below w.heap.size w w' := by
  have H := Lib.hid h
  clear h
  go_enter Tryz.func15, Tryz.ntmps15
  go_wp2_with (first
    | (go_at_call 37
       refine calls_named ?_
       intro W1 hW1
       have hb1 : Below w.heap.size w W1 := by rw [hW1]; exact balloc (Below.refl _ _) _
       have hx1 : W1.heap[w.heap.size]? = some (.cells #[.int .u64 k.1.1, .int .u64 k.1.2] 32 (0, 0)) := by rw [hW1]; exact heap_alloc_new _ _
       clear hW1
       refine (smade_any T c ver es rs rh _ W1 ((H.out.below hb1).in_)).mono ?_
       rintro e w2 ⟨rfl, hb2⟩
       obtain ⟨a1, a2, a3⟩ := box_cells hb2 hx1
       have hb3 := bthen hb1 hb2
       have h3 := H.out.below hb3
       have s1 : ∀ W, Below w2.heap.size w2 W → W.cell? ⟨T, 0, none⟩ = some (.map (some M)) := h3.cells (j := 0) rfl
       have hlt1 := h3.ltT
       have r4 : ∀ n, (Instr.lookup 70 (.map (some M)) (.agg #[.int .u64 k.1.1, .int .u64 k.1.2]) false).run Tryz.prog (w2.drewN n) = .ok (.pointer (nptr (findM es k))) (w2.drewN n) := fun n => by
         have := look_es (h3.map.below (below_drewN (Below.refl _ _) n)) k false
         rw [nptr_get] at this
         exact this
       have HB3 := Lib.hid hb3
       clear hb1 hb2 hx1 hb3 h3))
  go_quiet (fail)
  go_wp2
  go_ret
  exact ⟨rfl, below_drewN HB3.out _⟩

set_option maxRecDepth 100000 in
set_option maxHeartbeats 4000000 in
theorem sver_any (T M : Nat) (c : Cfg) (ver : Nat) (es : List (KO × NE)) (rs rh : Nat) (w : World) (h : SAt w T M c ver es rs rh) :
    Calls Tryz.prog 14 #[.pointer (some ⟨T, 0, none⟩)] w fun e w' => e = .returned (.int .i64 (ver : Nat)) ∧ Below w.heap.size w w' := by
  have H := Lib.hid h
  clear h
  go_enter Tryz.func14, Tryz.ntmps14
  go_wp2_with (first
    | (go_at_call 37
       refine (smade_any T c ver es rs rh _ w (H.out.in_)).mono ?_
       rintro e w2 ⟨rfl, hb2⟩
       have h3 := H.out.below hb2
       have s1 : w2.cell? ⟨T, 5, none⟩ = some (.int .i64 (ver : Nat)) := h3.cells (j := 5) rfl w2 (Below.refl _ _)
       have hlt1 := h3.ltT
       have HB3 := Lib.hid hb2
       clear hb2 h3))
  go_ret
  exact ⟨rfl, HB3.out⟩
end

end Go.Proofs.YtfnabpmdjfejbaaGreat
