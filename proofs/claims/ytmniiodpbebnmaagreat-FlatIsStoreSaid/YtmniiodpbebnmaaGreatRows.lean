/-
  No cell of these rows narrows 'for every input' (looked for: loops, veiled, ifaces, maps, wideKeys, modest, calm, conditions, laid).
  DERIVED. THE GIVEN ROWS OF THIS SEAT. 8 by the template 'for every input the law returns true; each argument reads behind the call as it read before'; 0 by the template 'total and deterministic' (their statements: YtmniiodpbebnmaaGreatTotals.lean).
  GIVEN WITH THE SEED: the statements are not yours to turn. If you find one false, say at which input.
  Laid BY PROGRAM, IN A SANDBOX (cutbox-rows.mjs): the forced cells as the released guide's own fill.sh prints them over the translation 9faabdf3d53edb0d… (all of the seat's roots in one cut). By AI agents, Wed Nov 11 2026. No macro, syntax, notation, axiom, sorry.
-/
import Derived.Test.YtmniiodpbebnmaaGreatChecked
import GoSem.Claim
import GoSem.ClaimJoined
import GoSem.ClaimMapViews
import Derived.JoinedTies
import Derived.KernelRfl
namespace Go.Proofs.YtmniiodpbebnmaaGreat
/- THE CELL 'sum', in the pinned program and in every row, IS THE sha256 OF THE DUMP (.gsa) THAT YtmniiodpbebnmaaGreatProg.lean LOADS. Nothing in Lean hashes anything: it is a label: what it is worth is what the hold of that sum in a sandbox is worth. -/
noncomputable def Tryz.pinned : Pinned := { name := "ytmniiodpbebnmaagreat", sum := "9faabdf3d53edb0df9af144f7958131e42714bdde3658f6870c37d3af4fe7ed7", checked := Tryz.checked }
namespace Rows
def none {H : Type} : Left H := { results := [], args := [] }

/-- 'flywheellaw22.FlatDoes': WHATEVER THE INPUT: true; the input reads as it did. -/
def flatDoesSpec : ChangeSpec := { name := "flatDoes", fn := fun _ => fun
  | [d1, d2] => { results := [.lit (.bool true)], args := [d1, d2] }
  | _ => none }
def flatDoesRow : OpenClaim := { program := "ytmniiodpbebnmaagreat", sum := "9faabdf3d53edb0df9af144f7958131e42714bdde3658f6870c37d3af4fe7ed7", func := "flywheel/flywheellaw22.FlatDoes", spec := "flatDoes", inPlace := ["slices.overlaps[flywheel/api.Sample]", "maps.clone", "math/bits.Add64"], unfollowed := true, recurses := true, plainKeys := false, apart := false }
def FlatDoesSaid : Prop := flatDoesRow.holds Tryz.pinned (OpenSpec.ofChange flatDoesSpec)

/-- ITS FALSE NEIGHBOUR: 'it returns false'. Refute it at one input. -/
def flatDoesWrong : ChangeSpec := { name := "flatDoes", fn := fun _ => fun
  | [d1, d2] => { results := [.lit (.bool false)], args := [d1, d2] }
  | _ => none }
def FlatDoesWrongFalsely : Prop := flatDoesRow.holds Tryz.pinned (OpenSpec.ofChange flatDoesWrong)

/-- 'flywheellaw22.FlatTwins': WHATEVER THE INPUT: true; the input reads as it did. -/
def flatTwinsSpec : ChangeSpec := { name := "flatTwins", fn := fun _ => fun
  | [d1, d2, d3, d4] => { results := [.lit (.bool true)], args := [d1, d2, d3, d4] }
  | _ => none }
def flatTwinsRow : OpenClaim := { program := "ytmniiodpbebnmaagreat", sum := "9faabdf3d53edb0df9af144f7958131e42714bdde3658f6870c37d3af4fe7ed7", func := "flywheel/flywheellaw22.FlatTwins", spec := "flatTwins", inPlace := ["slices.overlaps[flywheel/api.Sample]", "maps.clone", "math/bits.Add64"], unfollowed := true, recurses := true, plainKeys := false, apart := false }
def FlatTwinsSaid : Prop := flatTwinsRow.holds Tryz.pinned (OpenSpec.ofChange flatTwinsSpec)

/-- ITS FALSE NEIGHBOUR: 'it returns false'. Refute it at one input. -/
def flatTwinsWrong : ChangeSpec := { name := "flatTwins", fn := fun _ => fun
  | [d1, d2, d3, d4] => { results := [.lit (.bool false)], args := [d1, d2, d3, d4] }
  | _ => none }
def FlatTwinsWrongFalsely : Prop := flatTwinsRow.holds Tryz.pinned (OpenSpec.ofChange flatTwinsWrong)

/-- 'flywheellaw22.FlatNone': WHATEVER THE INPUT: true; the input reads as it did. -/
def flatNoneSpec : ChangeSpec := { name := "flatNone", fn := fun _ => fun
  | [d] => { results := [.lit (.bool true)], args := [d] }
  | _ => none }
def flatNoneRow : OpenClaim := { program := "ytmniiodpbebnmaagreat", sum := "9faabdf3d53edb0df9af144f7958131e42714bdde3658f6870c37d3af4fe7ed7", func := "flywheel/flywheellaw22.FlatNone", spec := "flatNone", inPlace := ["slices.overlaps[flywheel/api.Sample]", "maps.clone", "math/bits.Add64"], unfollowed := true, recurses := true, plainKeys := false, apart := false }
def FlatNoneSaid : Prop := flatNoneRow.holds Tryz.pinned (OpenSpec.ofChange flatNoneSpec)

/-- ITS FALSE NEIGHBOUR: 'it returns false'. Refute it at one input. -/
def flatNoneWrong : ChangeSpec := { name := "flatNone", fn := fun _ => fun
  | [d] => { results := [.lit (.bool false)], args := [d] }
  | _ => none }
def FlatNoneWrongFalsely : Prop := flatNoneRow.holds Tryz.pinned (OpenSpec.ofChange flatNoneWrong)

/-- 'flywheellaw21.StoreCuts': WHATEVER THE INPUT: true; the input reads as it did. -/
def storeCutsSpec : ChangeSpec := { name := "storeCuts", fn := fun _ => fun
  | [d1, d2, d3, d4, d5, d6] => { results := [.lit (.bool true)], args := [d1, d2, d3, d4, d5, d6] }
  | _ => none }
def storeCutsRow : OpenClaim := { program := "ytmniiodpbebnmaagreat", sum := "9faabdf3d53edb0df9af144f7958131e42714bdde3658f6870c37d3af4fe7ed7", func := "flywheel/flywheellaw21.StoreCuts", spec := "storeCuts", inPlace := ["slices.overlaps[flywheel/api.Sample]", "math/bits.Add64"], unfollowed := true, recurses := true, plainKeys := false, apart := false }
def StoreCutsSaid : Prop := storeCutsRow.holds Tryz.pinned (OpenSpec.ofChange storeCutsSpec)

/-- ITS FALSE NEIGHBOUR: 'it returns false'. Refute it at one input. -/
def storeCutsWrong : ChangeSpec := { name := "storeCuts", fn := fun _ => fun
  | [d1, d2, d3, d4, d5, d6] => { results := [.lit (.bool false)], args := [d1, d2, d3, d4, d5, d6] }
  | _ => none }
def StoreCutsWrongFalsely : Prop := storeCutsRow.holds Tryz.pinned (OpenSpec.ofChange storeCutsWrong)

/-- 'flywheellaw21.StoreNone': WHATEVER THE INPUT: true; the input reads as it did. -/
def storeNoneSpec : ChangeSpec := { name := "storeNone", fn := fun _ => fun
  | [d1, d2, d3] => { results := [.lit (.bool true)], args := [d1, d2, d3] }
  | _ => none }
def storeNoneRow : OpenClaim := { program := "ytmniiodpbebnmaagreat", sum := "9faabdf3d53edb0df9af144f7958131e42714bdde3658f6870c37d3af4fe7ed7", func := "flywheel/flywheellaw21.StoreNone", spec := "storeNone", inPlace := ["slices.overlaps[flywheel/api.Sample]", "math/bits.Add64"], unfollowed := true, recurses := true, plainKeys := false, apart := false }
def StoreNoneSaid : Prop := storeNoneRow.holds Tryz.pinned (OpenSpec.ofChange storeNoneSpec)

/-- ITS FALSE NEIGHBOUR: 'it returns false'. Refute it at one input. -/
def storeNoneWrong : ChangeSpec := { name := "storeNone", fn := fun _ => fun
  | [d1, d2, d3] => { results := [.lit (.bool false)], args := [d1, d2, d3] }
  | _ => none }
def StoreNoneWrongFalsely : Prop := storeNoneRow.holds Tryz.pinned (OpenSpec.ofChange storeNoneWrong)

/-- 'flywheellaw21.StorePublishes': WHATEVER THE INPUT: true; the input reads as it did. -/
def storePublishesSpec : ChangeSpec := { name := "storePublishes", fn := fun _ => fun
  | [d1, d2, d3] => { results := [.lit (.bool true)], args := [d1, d2, d3] }
  | _ => none }
def storePublishesRow : OpenClaim := { program := "ytmniiodpbebnmaagreat", sum := "9faabdf3d53edb0df9af144f7958131e42714bdde3658f6870c37d3af4fe7ed7", func := "flywheel/flywheellaw21.StorePublishes", spec := "storePublishes", inPlace := ["slices.overlaps[flywheel/api.Sample]", "math/bits.Add64"], unfollowed := true, recurses := true, plainKeys := false, apart := false }
def StorePublishesSaid : Prop := storePublishesRow.holds Tryz.pinned (OpenSpec.ofChange storePublishesSpec)

/-- ITS FALSE NEIGHBOUR: 'it returns false'. Refute it at one input. -/
def storePublishesWrong : ChangeSpec := { name := "storePublishes", fn := fun _ => fun
  | [d1, d2, d3] => { results := [.lit (.bool false)], args := [d1, d2, d3] }
  | _ => none }
def StorePublishesWrongFalsely : Prop := storePublishesRow.holds Tryz.pinned (OpenSpec.ofChange storePublishesWrong)

/-- 'flywheellaw21.StoreDoes': WHATEVER THE INPUT: true; the input reads as it did. -/
def storeDoesSpec : ChangeSpec := { name := "storeDoes", fn := fun _ => fun
  | [d1, d2] => { results := [.lit (.bool true)], args := [d1, d2] }
  | _ => none }
def storeDoesRow : OpenClaim := { program := "ytmniiodpbebnmaagreat", sum := "9faabdf3d53edb0df9af144f7958131e42714bdde3658f6870c37d3af4fe7ed7", func := "flywheel/flywheellaw21.StoreDoes", spec := "storeDoes", inPlace := ["slices.overlaps[flywheel/api.Sample]", "math/bits.Add64"], unfollowed := true, recurses := true, plainKeys := false, apart := false }
def StoreDoesSaid : Prop := storeDoesRow.holds Tryz.pinned (OpenSpec.ofChange storeDoesSpec)

/-- ITS FALSE NEIGHBOUR: 'it returns false'. Refute it at one input. -/
def storeDoesWrong : ChangeSpec := { name := "storeDoes", fn := fun _ => fun
  | [d1, d2] => { results := [.lit (.bool false)], args := [d1, d2] }
  | _ => none }
def StoreDoesWrongFalsely : Prop := storeDoesRow.holds Tryz.pinned (OpenSpec.ofChange storeDoesWrong)

/-- 'flywheellaw22.FlatIsStore': WHATEVER THE INPUT: true; the input reads as it did. -/
def flatIsStoreSpec : ChangeSpec := { name := "flatIsStore", fn := fun _ => fun
  | [d1, d2] => { results := [.lit (.bool true)], args := [d1, d2] }
  | _ => none }
def flatIsStoreRow : OpenClaim := { program := "ytmniiodpbebnmaagreat", sum := "9faabdf3d53edb0df9af144f7958131e42714bdde3658f6870c37d3af4fe7ed7", func := "flywheel/flywheellaw22.FlatIsStore", spec := "flatIsStore", inPlace := ["slices.overlaps[flywheel/api.Sample]", "maps.clone", "math/bits.Add64"], unfollowed := true, recurses := true, plainKeys := false, apart := false }
def FlatIsStoreSaid : Prop := flatIsStoreRow.holds Tryz.pinned (OpenSpec.ofChange flatIsStoreSpec)

/-- ITS FALSE NEIGHBOUR: 'it returns false'. Refute it at one input. -/
def flatIsStoreWrong : ChangeSpec := { name := "flatIsStore", fn := fun _ => fun
  | [d1, d2] => { results := [.lit (.bool false)], args := [d1, d2] }
  | _ => none }
def FlatIsStoreWrongFalsely : Prop := flatIsStoreRow.holds Tryz.pinned (OpenSpec.ofChange flatIsStoreWrong)

/- THE SECOND FORM. 'bulk': how many values and letters a reading holds, each counted each time it is reached (what is shared counts as often as it is met; a slice's spare places count too). A statement '..UptoSaid' is the law's where the arguments, and the package variables that the reading takes, are together of bulk at most 1048576: NARROWER than '..Said'. Prove '..Said' where nothing that the law and all that it calls make is longer than what came in: it says more and counts as full. Else prove '..UptoSaid'. A law counts once. -/
mutual
def uptoBulk {H : Type} : DataW H → Nat
  | .lit (.string bytes) => bytes.length + 1
  | .lit _ => 1
  | .nil => 1
  | .ptr d => uptoBulk d + 1
  | .slice elems spare => uptoBulkAll elems + uptoBulkAll spare + 1
  | .agg parts => uptoBulkAll parts + 1
  | .iface _ d => uptoBulk d + 1
  | .map entries => uptoBulkEntries entries + 1
  | .held _ => 1
def uptoBulkAll {H : Type} : List (DataW H) → Nat
  | [] => 0
  | d :: r => uptoBulk d + uptoBulkAll r
def uptoBulkEntries {H : Type} : List (Lit × DataW H) → Nat
  | [] => 0
  | x :: r => uptoBulkEntry x + uptoBulkEntries r
def uptoBulkEntry {H : Type} : Lit × DataW H → Nat
  | (.string bytes, d) => bytes.length + uptoBulk d + 1
  | (_, d) => uptoBulk d + 1
 end
def uptoSmall : (H : Type) → List (DataW H) → Bool := fun _ ds => decide (uptoBulkAll ds ≤ 1048576)
def OpenSpec.upto (s : _root_.Go.ChangeSpec) : _root_.Go.OpenSpec := { _root_.Go.OpenSpec.ofChange s with cond := some uptoSmall }

/-- 'flywheellaw22.FlatDoes', WHERE WHAT IT READS IS OF BULK AT MOST 1048576: true; the input reads as it did. -/
def flatDoesUptoRow : OpenClaim := { program := "ytmniiodpbebnmaagreat", sum := "9faabdf3d53edb0df9af144f7958131e42714bdde3658f6870c37d3af4fe7ed7", func := "flywheel/flywheellaw22.FlatDoes", spec := "flatDoes", inPlace := ["slices.overlaps[flywheel/api.Sample]", "maps.clone", "math/bits.Add64"], unfollowed := true, recurses := true, plainKeys := false, apart := false, narrowed := true }
def FlatDoesUptoSaid : Prop := flatDoesUptoRow.holds Tryz.pinned (OpenSpec.upto flatDoesSpec)

/-- 'flywheellaw22.FlatTwins', WHERE WHAT IT READS IS OF BULK AT MOST 1048576: true; the input reads as it did. -/
def flatTwinsUptoRow : OpenClaim := { program := "ytmniiodpbebnmaagreat", sum := "9faabdf3d53edb0df9af144f7958131e42714bdde3658f6870c37d3af4fe7ed7", func := "flywheel/flywheellaw22.FlatTwins", spec := "flatTwins", inPlace := ["slices.overlaps[flywheel/api.Sample]", "maps.clone", "math/bits.Add64"], unfollowed := true, recurses := true, plainKeys := false, apart := false, narrowed := true }
def FlatTwinsUptoSaid : Prop := flatTwinsUptoRow.holds Tryz.pinned (OpenSpec.upto flatTwinsSpec)

/-- 'flywheellaw22.FlatNone', WHERE WHAT IT READS IS OF BULK AT MOST 1048576: true; the input reads as it did. -/
def flatNoneUptoRow : OpenClaim := { program := "ytmniiodpbebnmaagreat", sum := "9faabdf3d53edb0df9af144f7958131e42714bdde3658f6870c37d3af4fe7ed7", func := "flywheel/flywheellaw22.FlatNone", spec := "flatNone", inPlace := ["slices.overlaps[flywheel/api.Sample]", "maps.clone", "math/bits.Add64"], unfollowed := true, recurses := true, plainKeys := false, apart := false, narrowed := true }
def FlatNoneUptoSaid : Prop := flatNoneUptoRow.holds Tryz.pinned (OpenSpec.upto flatNoneSpec)

/-- 'flywheellaw21.StoreCuts', WHERE WHAT IT READS IS OF BULK AT MOST 1048576: true; the input reads as it did. -/
def storeCutsUptoRow : OpenClaim := { program := "ytmniiodpbebnmaagreat", sum := "9faabdf3d53edb0df9af144f7958131e42714bdde3658f6870c37d3af4fe7ed7", func := "flywheel/flywheellaw21.StoreCuts", spec := "storeCuts", inPlace := ["slices.overlaps[flywheel/api.Sample]", "math/bits.Add64"], unfollowed := true, recurses := true, plainKeys := false, apart := false, narrowed := true }
def StoreCutsUptoSaid : Prop := storeCutsUptoRow.holds Tryz.pinned (OpenSpec.upto storeCutsSpec)

/-- 'flywheellaw21.StoreNone', WHERE WHAT IT READS IS OF BULK AT MOST 1048576: true; the input reads as it did. -/
def storeNoneUptoRow : OpenClaim := { program := "ytmniiodpbebnmaagreat", sum := "9faabdf3d53edb0df9af144f7958131e42714bdde3658f6870c37d3af4fe7ed7", func := "flywheel/flywheellaw21.StoreNone", spec := "storeNone", inPlace := ["slices.overlaps[flywheel/api.Sample]", "math/bits.Add64"], unfollowed := true, recurses := true, plainKeys := false, apart := false, narrowed := true }
def StoreNoneUptoSaid : Prop := storeNoneUptoRow.holds Tryz.pinned (OpenSpec.upto storeNoneSpec)

/-- 'flywheellaw21.StorePublishes', WHERE WHAT IT READS IS OF BULK AT MOST 1048576: true; the input reads as it did. -/
def storePublishesUptoRow : OpenClaim := { program := "ytmniiodpbebnmaagreat", sum := "9faabdf3d53edb0df9af144f7958131e42714bdde3658f6870c37d3af4fe7ed7", func := "flywheel/flywheellaw21.StorePublishes", spec := "storePublishes", inPlace := ["slices.overlaps[flywheel/api.Sample]", "math/bits.Add64"], unfollowed := true, recurses := true, plainKeys := false, apart := false, narrowed := true }
def StorePublishesUptoSaid : Prop := storePublishesUptoRow.holds Tryz.pinned (OpenSpec.upto storePublishesSpec)

/-- 'flywheellaw21.StoreDoes', WHERE WHAT IT READS IS OF BULK AT MOST 1048576: true; the input reads as it did. -/
def storeDoesUptoRow : OpenClaim := { program := "ytmniiodpbebnmaagreat", sum := "9faabdf3d53edb0df9af144f7958131e42714bdde3658f6870c37d3af4fe7ed7", func := "flywheel/flywheellaw21.StoreDoes", spec := "storeDoes", inPlace := ["slices.overlaps[flywheel/api.Sample]", "math/bits.Add64"], unfollowed := true, recurses := true, plainKeys := false, apart := false, narrowed := true }
def StoreDoesUptoSaid : Prop := storeDoesUptoRow.holds Tryz.pinned (OpenSpec.upto storeDoesSpec)

/-- 'flywheellaw22.FlatIsStore', WHERE WHAT IT READS IS OF BULK AT MOST 1048576: true; the input reads as it did. -/
def flatIsStoreUptoRow : OpenClaim := { program := "ytmniiodpbebnmaagreat", sum := "9faabdf3d53edb0df9af144f7958131e42714bdde3658f6870c37d3af4fe7ed7", func := "flywheel/flywheellaw22.FlatIsStore", spec := "flatIsStore", inPlace := ["slices.overlaps[flywheel/api.Sample]", "maps.clone", "math/bits.Add64"], unfollowed := true, recurses := true, plainKeys := false, apart := false, narrowed := true }
def FlatIsStoreUptoSaid : Prop := flatIsStoreUptoRow.holds Tryz.pinned (OpenSpec.upto flatIsStoreSpec)

end Rows
end Go.Proofs.YtmniiodpbebnmaaGreat
