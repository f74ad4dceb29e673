/-
  No cell of these rows narrows 'for every input' (looked for: loops, veiled, ifaces, maps, wideKeys, modest, calm, conditions, laid).
  DERIVED. THE GIVEN ROWS OF THIS SEAT. 7 by the template 'for every input the law returns true; each argument reads behind the call as it read before'; 0 by the template 'total and deterministic' (their statements: YtfegielnmdppgaaGreatTotals.lean).
  GIVEN WITH THE SEED: the statements are not yours to turn. If you find one false, say at which input.
  Laid BY PROGRAM, IN A SANDBOX (cutbox-rows.mjs): the forced cells as the released guide's own fill.sh prints them over the translation 4263b9aabda5c370… (all of the seat's roots in one cut). By AI agents, Wed Nov 11 2026. No macro, syntax, notation, axiom, sorry.
-/
import Derived.Test.YtfegielnmdppgaaGreatChecked
import GoSem.Claim
import GoSem.ClaimJoined
import GoSem.ClaimMapViews
import Derived.JoinedTies
import Derived.KernelRfl
namespace Go.Proofs.YtfegielnmdppgaaGreat
/- THE CELL 'sum', in the pinned program and in every row, IS THE sha256 OF THE DUMP (.gsa) THAT YtfegielnmdppgaaGreatProg.lean LOADS. Nothing in Lean hashes anything: it is a label: what it is worth is what the hold of that sum in a sandbox is worth. -/
noncomputable def Tryz.pinned : Pinned := { name := "ytfegielnmdppgaagreat", sum := "4263b9aabda5c3701e5a6e8399ff88cbba1cbab2efcf70bedf7e665809b90a93", checked := Tryz.checked }
namespace Rows
def none {H : Type} : Left H := { results := [], args := [] }

/-- 'flywheellaw19.CutTells': WHATEVER THE INPUT: true; the input reads as it did. -/
def cutTellsSpec : ChangeSpec := { name := "cutTells", fn := fun _ => fun
  | [d1, d2, d3, d4, d5, d6] => { results := [.lit (.bool true)], args := [d1, d2, d3, d4, d5, d6] }
  | _ => none }
def cutTellsRow : OpenClaim := { program := "ytfegielnmdppgaagreat", sum := "4263b9aabda5c3701e5a6e8399ff88cbba1cbab2efcf70bedf7e665809b90a93", func := "flywheel/flywheellaw19.CutTells", spec := "cutTells", inPlace := ["math/bits.Add64", "slices.overlaps[flywheel/api.Sample]"], unfollowed := true, recurses := true, plainKeys := false, apart := false }
def CutTellsSaid : Prop := cutTellsRow.holds Tryz.pinned (OpenSpec.ofChange cutTellsSpec)

/-- ITS FALSE NEIGHBOUR: 'it returns false'. Refute it at one input. -/
def cutTellsWrong : ChangeSpec := { name := "cutTells", fn := fun _ => fun
  | [d1, d2, d3, d4, d5, d6] => { results := [.lit (.bool false)], args := [d1, d2, d3, d4, d5, d6] }
  | _ => none }
def CutTellsWrongFalsely : Prop := cutTellsRow.holds Tryz.pinned (OpenSpec.ofChange cutTellsWrong)

/-- 'flywheellaw19.CutFinds': WHATEVER THE INPUT: true; the input reads as it did. -/
def cutFindsSpec : ChangeSpec := { name := "cutFinds", fn := fun _ => fun
  | [d1, d2, d3, d4] => { results := [.lit (.bool true)], args := [d1, d2, d3, d4] }
  | _ => none }
def cutFindsRow : OpenClaim := { program := "ytfegielnmdppgaagreat", sum := "4263b9aabda5c3701e5a6e8399ff88cbba1cbab2efcf70bedf7e665809b90a93", func := "flywheel/flywheellaw19.CutFinds", spec := "cutFinds", inPlace := ["math/bits.Add64", "slices.overlaps[flywheel/api.Sample]"], unfollowed := true, recurses := true, plainKeys := false, apart := false }
def CutFindsSaid : Prop := cutFindsRow.holds Tryz.pinned (OpenSpec.ofChange cutFindsSpec)

/-- ITS FALSE NEIGHBOUR: 'it returns false'. Refute it at one input. -/
def cutFindsWrong : ChangeSpec := { name := "cutFinds", fn := fun _ => fun
  | [d1, d2, d3, d4] => { results := [.lit (.bool false)], args := [d1, d2, d3, d4] }
  | _ => none }
def CutFindsWrongFalsely : Prop := cutFindsRow.holds Tryz.pinned (OpenSpec.ofChange cutFindsWrong)

/-- 'flywheellaw19.CutDiffers': WHATEVER THE INPUT: true; the input reads as it did. -/
def cutDiffersSpec : ChangeSpec := { name := "cutDiffers", fn := fun _ => fun
  | [d1, d2, d3] => { results := [.lit (.bool true)], args := [d1, d2, d3] }
  | _ => none }
def cutDiffersRow : OpenClaim := { program := "ytfegielnmdppgaagreat", sum := "4263b9aabda5c3701e5a6e8399ff88cbba1cbab2efcf70bedf7e665809b90a93", func := "flywheel/flywheellaw19.CutDiffers", spec := "cutDiffers", inPlace := ["math/bits.Add64", "slices.overlaps[flywheel/api.Sample]"], unfollowed := true, recurses := true, plainKeys := false, apart := false }
def CutDiffersSaid : Prop := cutDiffersRow.holds Tryz.pinned (OpenSpec.ofChange cutDiffersSpec)

/-- ITS FALSE NEIGHBOUR: 'it returns false'. Refute it at one input. -/
def cutDiffersWrong : ChangeSpec := { name := "cutDiffers", fn := fun _ => fun
  | [d1, d2, d3] => { results := [.lit (.bool false)], args := [d1, d2, d3] }
  | _ => none }
def CutDiffersWrongFalsely : Prop := cutDiffersRow.holds Tryz.pinned (OpenSpec.ofChange cutDiffersWrong)

/-- 'flywheellaw21.StoreCuts': WHATEVER THE INPUT: true; the input reads as it did. -/
def storeCutsSpec : ChangeSpec := { name := "storeCuts", fn := fun _ => fun
  | [d1, d2, d3, d4, d5, d6] => { results := [.lit (.bool true)], args := [d1, d2, d3, d4, d5, d6] }
  | _ => none }
def storeCutsRow : OpenClaim := { program := "ytfegielnmdppgaagreat", sum := "4263b9aabda5c3701e5a6e8399ff88cbba1cbab2efcf70bedf7e665809b90a93", func := "flywheel/flywheellaw21.StoreCuts", spec := "storeCuts", inPlace := ["slices.overlaps[flywheel/api.Sample]", "math/bits.Add64"], unfollowed := true, recurses := true, plainKeys := false, apart := false }
def StoreCutsSaid : Prop := storeCutsRow.holds Tryz.pinned (OpenSpec.ofChange storeCutsSpec)

/-- ITS FALSE NEIGHBOUR: 'it returns false'. Refute it at one input. -/
def storeCutsWrong : ChangeSpec := { name := "storeCuts", fn := fun _ => fun
  | [d1, d2, d3, d4, d5, d6] => { results := [.lit (.bool false)], args := [d1, d2, d3, d4, d5, d6] }
  | _ => none }
def StoreCutsWrongFalsely : Prop := storeCutsRow.holds Tryz.pinned (OpenSpec.ofChange storeCutsWrong)

/-- 'flywheellaw21.StoreNone': WHATEVER THE INPUT: true; the input reads as it did. -/
def storeNoneSpec : ChangeSpec := { name := "storeNone", fn := fun _ => fun
  | [d1, d2, d3] => { results := [.lit (.bool true)], args := [d1, d2, d3] }
  | _ => none }
def storeNoneRow : OpenClaim := { program := "ytfegielnmdppgaagreat", sum := "4263b9aabda5c3701e5a6e8399ff88cbba1cbab2efcf70bedf7e665809b90a93", func := "flywheel/flywheellaw21.StoreNone", spec := "storeNone", inPlace := ["slices.overlaps[flywheel/api.Sample]", "math/bits.Add64"], unfollowed := true, recurses := true, plainKeys := false, apart := false }
def StoreNoneSaid : Prop := storeNoneRow.holds Tryz.pinned (OpenSpec.ofChange storeNoneSpec)

/-- ITS FALSE NEIGHBOUR: 'it returns false'. Refute it at one input. -/
def storeNoneWrong : ChangeSpec := { name := "storeNone", fn := fun _ => fun
  | [d1, d2, d3] => { results := [.lit (.bool false)], args := [d1, d2, d3] }
  | _ => none }
def StoreNoneWrongFalsely : Prop := storeNoneRow.holds Tryz.pinned (OpenSpec.ofChange storeNoneWrong)

/-- 'flywheellaw21.StorePublishes': WHATEVER THE INPUT: true; the input reads as it did. -/
def storePublishesSpec : ChangeSpec := { name := "storePublishes", fn := fun _ => fun
  | [d1, d2, d3] => { results := [.lit (.bool true)], args := [d1, d2, d3] }
  | _ => none }
def storePublishesRow : OpenClaim := { program := "ytfegielnmdppgaagreat", sum := "4263b9aabda5c3701e5a6e8399ff88cbba1cbab2efcf70bedf7e665809b90a93", func := "flywheel/flywheellaw21.StorePublishes", spec := "storePublishes", inPlace := ["slices.overlaps[flywheel/api.Sample]", "math/bits.Add64"], unfollowed := true, recurses := true, plainKeys := false, apart := false }
def StorePublishesSaid : Prop := storePublishesRow.holds Tryz.pinned (OpenSpec.ofChange storePublishesSpec)

/-- ITS FALSE NEIGHBOUR: 'it returns false'. Refute it at one input. -/
def storePublishesWrong : ChangeSpec := { name := "storePublishes", fn := fun _ => fun
  | [d1, d2, d3] => { results := [.lit (.bool false)], args := [d1, d2, d3] }
  | _ => none }
def StorePublishesWrongFalsely : Prop := storePublishesRow.holds Tryz.pinned (OpenSpec.ofChange storePublishesWrong)

/-- 'flywheellaw21.StoreDoes': WHATEVER THE INPUT: true; the input reads as it did. -/
def storeDoesSpec : ChangeSpec := { name := "storeDoes", fn := fun _ => fun
  | [d1, d2] => { results := [.lit (.bool true)], args := [d1, d2] }
  | _ => none }
def storeDoesRow : OpenClaim := { program := "ytfegielnmdppgaagreat", sum := "4263b9aabda5c3701e5a6e8399ff88cbba1cbab2efcf70bedf7e665809b90a93", func := "flywheel/flywheellaw21.StoreDoes", spec := "storeDoes", inPlace := ["slices.overlaps[flywheel/api.Sample]", "math/bits.Add64"], unfollowed := true, recurses := true, plainKeys := false, apart := false }
def StoreDoesSaid : Prop := storeDoesRow.holds Tryz.pinned (OpenSpec.ofChange storeDoesSpec)

/-- ITS FALSE NEIGHBOUR: 'it returns false'. Refute it at one input. -/
def storeDoesWrong : ChangeSpec := { name := "storeDoes", fn := fun _ => fun
  | [d1, d2] => { results := [.lit (.bool false)], args := [d1, d2] }
  | _ => none }
def StoreDoesWrongFalsely : Prop := storeDoesRow.holds Tryz.pinned (OpenSpec.ofChange storeDoesWrong)

/- THE SECOND FORM. 'bulk': how many values and letters a reading holds, each counted each time it is reached (what is shared counts as often as it is met; a slice's spare places count too). A statement '..UptoSaid' is the law's where the arguments, and the package variables that the reading takes, are together of bulk at most 1048576: NARROWER than '..Said'. Prove '..Said' where nothing that the law and all that it calls make is longer than what came in: it says more and counts as full. Else prove '..UptoSaid'. A law counts once. -/
mutual
def uptoBulk {H : Type} : DataW H → Nat
  | .lit (.string bytes) => bytes.length + 1
  | .lit _ => 1
  | .nil => 1
  | .ptr d => uptoBulk d + 1
  | .slice elems spare => uptoBulkAll elems + uptoBulkAll spare + 1
  | .agg parts => uptoBulkAll parts + 1
  | .iface _ d => uptoBulk d + 1
  | .map entries => uptoBulkEntries entries + 1
  | .held _ => 1
def uptoBulkAll {H : Type} : List (DataW H) → Nat
  | [] => 0
  | d :: r => uptoBulk d + uptoBulkAll r
def uptoBulkEntries {H : Type} : List (Lit × DataW H) → Nat
  | [] => 0
  | x :: r => uptoBulkEntry x + uptoBulkEntries r
def uptoBulkEntry {H : Type} : Lit × DataW H → Nat
  | (.string bytes, d) => bytes.length + uptoBulk d + 1
  | (_, d) => uptoBulk d + 1
 end
def uptoSmall : (H : Type) → List (DataW H) → Bool := fun _ ds => decide (uptoBulkAll ds ≤ 1048576)
def OpenSpec.upto (s : _root_.Go.ChangeSpec) : _root_.Go.OpenSpec := { _root_.Go.OpenSpec.ofChange s with cond := some uptoSmall }

/-- 'flywheellaw19.CutTells', WHERE WHAT IT READS IS OF BULK AT MOST 1048576: true; the input reads as it did. -/
def cutTellsUptoRow : OpenClaim := { program := "ytfegielnmdppgaagreat", sum := "4263b9aabda5c3701e5a6e8399ff88cbba1cbab2efcf70bedf7e665809b90a93", func := "flywheel/flywheellaw19.CutTells", spec := "cutTells", inPlace := ["math/bits.Add64", "slices.overlaps[flywheel/api.Sample]"], unfollowed := true, recurses := true, plainKeys := false, apart := false, narrowed := true }
def CutTellsUptoSaid : Prop := cutTellsUptoRow.holds Tryz.pinned (OpenSpec.upto cutTellsSpec)

/-- 'flywheellaw19.CutFinds', WHERE WHAT IT READS IS OF BULK AT MOST 1048576: true; the input reads as it did. -/
def cutFindsUptoRow : OpenClaim := { program := "ytfegielnmdppgaagreat", sum := "4263b9aabda5c3701e5a6e8399ff88cbba1cbab2efcf70bedf7e665809b90a93", func := "flywheel/flywheellaw19.CutFinds", spec := "cutFinds", inPlace := ["math/bits.Add64", "slices.overlaps[flywheel/api.Sample]"], unfollowed := true, recurses := true, plainKeys := false, apart := false, narrowed := true }
def CutFindsUptoSaid : Prop := cutFindsUptoRow.holds Tryz.pinned (OpenSpec.upto cutFindsSpec)

/-- 'flywheellaw19.CutDiffers', WHERE WHAT IT READS IS OF BULK AT MOST 1048576: true; the input reads as it did. -/
def cutDiffersUptoRow : OpenClaim := { program := "ytfegielnmdppgaagreat", sum := "4263b9aabda5c3701e5a6e8399ff88cbba1cbab2efcf70bedf7e665809b90a93", func := "flywheel/flywheellaw19.CutDiffers", spec := "cutDiffers", inPlace := ["math/bits.Add64", "slices.overlaps[flywheel/api.Sample]"], unfollowed := true, recurses := true, plainKeys := false, apart := false, narrowed := true }
def CutDiffersUptoSaid : Prop := cutDiffersUptoRow.holds Tryz.pinned (OpenSpec.upto cutDiffersSpec)

/-- 'flywheellaw21.StoreCuts', WHERE WHAT IT READS IS OF BULK AT MOST 1048576: true; the input reads as it did. -/
def storeCutsUptoRow : OpenClaim := { program := "ytfegielnmdppgaagreat", sum := "4263b9aabda5c3701e5a6e8399ff88cbba1cbab2efcf70bedf7e665809b90a93", func := "flywheel/flywheellaw21.StoreCuts", spec := "storeCuts", inPlace := ["slices.overlaps[flywheel/api.Sample]", "math/bits.Add64"], unfollowed := true, recurses := true, plainKeys := false, apart := false, narrowed := true }
def StoreCutsUptoSaid : Prop := storeCutsUptoRow.holds Tryz.pinned (OpenSpec.upto storeCutsSpec)

/-- 'flywheellaw21.StoreNone', WHERE WHAT IT READS IS OF BULK AT MOST 1048576: true; the input reads as it did. -/
def storeNoneUptoRow : OpenClaim := { program := "ytfegielnmdppgaagreat", sum := "4263b9aabda5c3701e5a6e8399ff88cbba1cbab2efcf70bedf7e665809b90a93", func := "flywheel/flywheellaw21.StoreNone", spec := "storeNone", inPlace := ["slices.overlaps[flywheel/api.Sample]", "math/bits.Add64"], unfollowed := true, recurses := true, plainKeys := false, apart := false, narrowed := true }
def StoreNoneUptoSaid : Prop := storeNoneUptoRow.holds Tryz.pinned (OpenSpec.upto storeNoneSpec)

/-- 'flywheellaw21.StorePublishes', WHERE WHAT IT READS IS OF BULK AT MOST 1048576: true; the input reads as it did. -/
def storePublishesUptoRow : OpenClaim := { program := "ytfegielnmdppgaagreat", sum := "4263b9aabda5c3701e5a6e8399ff88cbba1cbab2efcf70bedf7e665809b90a93", func := "flywheel/flywheellaw21.StorePublishes", spec := "storePublishes", inPlace := ["slices.overlaps[flywheel/api.Sample]", "math/bits.Add64"], unfollowed := true, recurses := true, plainKeys := false, apart := false, narrowed := true }
def StorePublishesUptoSaid : Prop := storePublishesUptoRow.holds Tryz.pinned (OpenSpec.upto storePublishesSpec)

/-- 'flywheellaw21.StoreDoes', WHERE WHAT IT READS IS OF BULK AT MOST 1048576: true; the input reads as it did. -/
def storeDoesUptoRow : OpenClaim := { program := "ytfegielnmdppgaagreat", sum := "4263b9aabda5c3701e5a6e8399ff88cbba1cbab2efcf70bedf7e665809b90a93", func := "flywheel/flywheellaw21.StoreDoes", spec := "storeDoes", inPlace := ["slices.overlaps[flywheel/api.Sample]", "math/bits.Add64"], unfollowed := true, recurses := true, plainKeys := false, apart := false, narrowed := true }
def StoreDoesUptoSaid : Prop := storeDoesUptoRow.holds Tryz.pinned (OpenSpec.upto storeDoesSpec)

end Rows
end Go.Proofs.YtfegielnmdppgaaGreat
