/-
  No cell of these rows narrows 'for every input' (looked for: loops, veiled, ifaces, maps, wideKeys, modest, calm, conditions, laid).
  DERIVED. THE GIVEN ROWS OF THIS SEAT. 9 by the template 'for every input the law returns true; each argument reads behind the call as it read before'; 0 by the template 'total and deterministic' (their statements: YtpmfcpdelkchaaaGreatTotals.lean).
  GIVEN WITH THE SEED: the statements are not yours to turn. If you find one false, say at which input.
  Laid BY PROGRAM, IN A SANDBOX (cutbox-rows.mjs): the forced cells as the released guide's own fill.sh prints them over the translation 9b1da90d3abb5157… (all of the seat's roots in one cut). By AI agents, Wed Nov 11 2026. No macro, syntax, notation, axiom, sorry.
-/
import Derived.Test.YtpmfcpdelkchaaaGreatChecked
import GoSem.Claim
import GoSem.ClaimJoined
import GoSem.ClaimMapViews
import Derived.JoinedTies
import Derived.KernelRfl
namespace Go.Proofs.YtpmfcpdelkchaaaGreat
/- THE CELL 'sum', in the pinned program and in every row, IS THE sha256 OF THE DUMP (.gsa) THAT YtpmfcpdelkchaaaGreatProg.lean LOADS. Nothing in Lean hashes anything: it is a label: what it is worth is what the hold of that sum in a sandbox is worth. -/
noncomputable def Tryz.pinned : Pinned := { name := "ytpmfcpdelkchaaagreat", sum := "9b1da90d3abb5157e2d5140675356ba2f02bc793a3fd7ce26fc4a4290b3c7ffe", checked := Tryz.checked }
namespace Rows
def none {H : Type} : Left H := { results := [], args := [] }

/-- 'flywheellaw47.DifferLines': WHATEVER THE INPUT: true; the input reads as it did. -/
def differLinesSpec : ChangeSpec := { name := "differLines", fn := fun _ => fun
  | [d1, d2, d3, d4] => { results := [.lit (.bool true)], args := [d1, d2, d3, d4] }
  | _ => none }
def differLinesRow : OpenClaim := { program := "ytpmfcpdelkchaaagreat", sum := "9b1da90d3abb5157e2d5140675356ba2f02bc793a3fd7ce26fc4a4290b3c7ffe", func := "flywheel/flywheellaw47.DifferLines", spec := "differLines", inPlace := ["maps.clone", "slices.overlaps[flywheel/api.Sample]", "math/bits.Add64"], unfollowed := true, recurses := true, plainKeys := false, apart := false }
def DifferLinesSaid : Prop := differLinesRow.holds Tryz.pinned (OpenSpec.ofChange differLinesSpec)

/-- ITS FALSE NEIGHBOUR: 'it returns false'. Refute it at one input. -/
def differLinesWrong : ChangeSpec := { name := "differLines", fn := fun _ => fun
  | [d1, d2, d3, d4] => { results := [.lit (.bool false)], args := [d1, d2, d3, d4] }
  | _ => none }
def DifferLinesWrongFalsely : Prop := differLinesRow.holds Tryz.pinned (OpenSpec.ofChange differLinesWrong)

/-- 'flywheellaw47.DifferParts': WHATEVER THE INPUT: true; the input reads as it did. -/
def differPartsSpec : ChangeSpec := { name := "differParts", fn := fun _ => fun
  | [d1, d2] => { results := [.lit (.bool true)], args := [d1, d2] }
  | _ => none }
def differPartsRow : OpenClaim := { program := "ytpmfcpdelkchaaagreat", sum := "9b1da90d3abb5157e2d5140675356ba2f02bc793a3fd7ce26fc4a4290b3c7ffe", func := "flywheel/flywheellaw47.DifferParts", spec := "differParts", inPlace := ["maps.clone", "slices.overlaps[flywheel/api.Sample]", "math/bits.Add64"], unfollowed := true, recurses := true, plainKeys := false, apart := false }
def DifferPartsSaid : Prop := differPartsRow.holds Tryz.pinned (OpenSpec.ofChange differPartsSpec)

/-- ITS FALSE NEIGHBOUR: 'it returns false'. Refute it at one input. -/
def differPartsWrong : ChangeSpec := { name := "differParts", fn := fun _ => fun
  | [d1, d2] => { results := [.lit (.bool false)], args := [d1, d2] }
  | _ => none }
def DifferPartsWrongFalsely : Prop := differPartsRow.holds Tryz.pinned (OpenSpec.ofChange differPartsWrong)

/-- 'flywheellaw36.SearchFinds': WHATEVER THE INPUT: true; the input reads as it did. -/
def searchFindsSpec : ChangeSpec := { name := "searchFinds", fn := fun _ => fun
  | [d1, d2] => { results := [.lit (.bool true)], args := [d1, d2] }
  | _ => none }
def searchFindsRow : OpenClaim := { program := "ytpmfcpdelkchaaagreat", sum := "9b1da90d3abb5157e2d5140675356ba2f02bc793a3fd7ce26fc4a4290b3c7ffe", func := "flywheel/flywheellaw36.SearchFinds", spec := "searchFinds", inPlace := ["maps.clone", "slices.overlaps[flywheel/api.Sample]", "math/bits.Add64"], unfollowed := true, recurses := true, plainKeys := false, apart := false }
def SearchFindsSaid : Prop := searchFindsRow.holds Tryz.pinned (OpenSpec.ofChange searchFindsSpec)

/-- ITS FALSE NEIGHBOUR: 'it returns false'. Refute it at one input. -/
def searchFindsWrong : ChangeSpec := { name := "searchFinds", fn := fun _ => fun
  | [d1, d2] => { results := [.lit (.bool false)], args := [d1, d2] }
  | _ => none }
def SearchFindsWrongFalsely : Prop := searchFindsRow.holds Tryz.pinned (OpenSpec.ofChange searchFindsWrong)

/-- 'flywheellaw36.SearchWays': WHATEVER THE INPUT: true; the input reads as it did. -/
def searchWaysSpec : ChangeSpec := { name := "searchWays", fn := fun _ => fun
  | [d1, d2, d3] => { results := [.lit (.bool true)], args := [d1, d2, d3] }
  | _ => none }
def searchWaysRow : OpenClaim := { program := "ytpmfcpdelkchaaagreat", sum := "9b1da90d3abb5157e2d5140675356ba2f02bc793a3fd7ce26fc4a4290b3c7ffe", func := "flywheel/flywheellaw36.SearchWays", spec := "searchWays", inPlace := ["maps.clone", "slices.overlaps[flywheel/api.Sample]", "math/bits.Add64"], unfollowed := true, recurses := true, plainKeys := false, apart := false }
def SearchWaysSaid : Prop := searchWaysRow.holds Tryz.pinned (OpenSpec.ofChange searchWaysSpec)

/-- ITS FALSE NEIGHBOUR: 'it returns false'. Refute it at one input. -/
def searchWaysWrong : ChangeSpec := { name := "searchWays", fn := fun _ => fun
  | [d1, d2, d3] => { results := [.lit (.bool false)], args := [d1, d2, d3] }
  | _ => none }
def SearchWaysWrongFalsely : Prop := searchWaysRow.holds Tryz.pinned (OpenSpec.ofChange searchWaysWrong)

/-- 'flywheellaw35.OrderReplays': WHATEVER THE INPUT: true; the input reads as it did. -/
def orderReplaysSpec : ChangeSpec := { name := "orderReplays", fn := fun _ => fun
  | [d1, d2] => { results := [.lit (.bool true)], args := [d1, d2] }
  | _ => none }
def orderReplaysRow : OpenClaim := { program := "ytpmfcpdelkchaaagreat", sum := "9b1da90d3abb5157e2d5140675356ba2f02bc793a3fd7ce26fc4a4290b3c7ffe", func := "flywheel/flywheellaw35.OrderReplays", spec := "orderReplays", inPlace := ["slices.overlaps[flywheel/api.Sample]", "maps.clone", "math/bits.Add64"], unfollowed := true, recurses := true, plainKeys := false, apart := false }
def OrderReplaysSaid : Prop := orderReplaysRow.holds Tryz.pinned (OpenSpec.ofChange orderReplaysSpec)

/-- ITS FALSE NEIGHBOUR: 'it returns false'. Refute it at one input. -/
def orderReplaysWrong : ChangeSpec := { name := "orderReplays", fn := fun _ => fun
  | [d1, d2] => { results := [.lit (.bool false)], args := [d1, d2] }
  | _ => none }
def OrderReplaysWrongFalsely : Prop := orderReplaysRow.holds Tryz.pinned (OpenSpec.ofChange orderReplaysWrong)

/-- 'flywheellaw35.OrderAfter': WHATEVER THE INPUT: true; the input reads as it did. -/
def orderAfterSpec : ChangeSpec := { name := "orderAfter", fn := fun _ => fun
  | [d1, d2, d3] => { results := [.lit (.bool true)], args := [d1, d2, d3] }
  | _ => none }
def orderAfterRow : OpenClaim := { program := "ytpmfcpdelkchaaagreat", sum := "9b1da90d3abb5157e2d5140675356ba2f02bc793a3fd7ce26fc4a4290b3c7ffe", func := "flywheel/flywheellaw35.OrderAfter", spec := "orderAfter", inPlace := ["slices.overlaps[flywheel/api.Sample]", "maps.clone", "math/bits.Add64"], unfollowed := true, recurses := true, plainKeys := false, apart := false }
def OrderAfterSaid : Prop := orderAfterRow.holds Tryz.pinned (OpenSpec.ofChange orderAfterSpec)

/-- ITS FALSE NEIGHBOUR: 'it returns false'. Refute it at one input. -/
def orderAfterWrong : ChangeSpec := { name := "orderAfter", fn := fun _ => fun
  | [d1, d2, d3] => { results := [.lit (.bool false)], args := [d1, d2, d3] }
  | _ => none }
def OrderAfterWrongFalsely : Prop := orderAfterRow.holds Tryz.pinned (OpenSpec.ofChange orderAfterWrong)

/-- 'flywheellaw22.FlatDoes': WHATEVER THE INPUT: true; the input reads as it did. -/
def flatDoesSpec : ChangeSpec := { name := "flatDoes", fn := fun _ => fun
  | [d1, d2] => { results := [.lit (.bool true)], args := [d1, d2] }
  | _ => none }
def flatDoesRow : OpenClaim := { program := "ytpmfcpdelkchaaagreat", sum := "9b1da90d3abb5157e2d5140675356ba2f02bc793a3fd7ce26fc4a4290b3c7ffe", func := "flywheel/flywheellaw22.FlatDoes", spec := "flatDoes", inPlace := ["slices.overlaps[flywheel/api.Sample]", "maps.clone", "math/bits.Add64"], unfollowed := true, recurses := true, plainKeys := false, apart := false }
def FlatDoesSaid : Prop := flatDoesRow.holds Tryz.pinned (OpenSpec.ofChange flatDoesSpec)

/-- ITS FALSE NEIGHBOUR: 'it returns false'. Refute it at one input. -/
def flatDoesWrong : ChangeSpec := { name := "flatDoes", fn := fun _ => fun
  | [d1, d2] => { results := [.lit (.bool false)], args := [d1, d2] }
  | _ => none }
def FlatDoesWrongFalsely : Prop := flatDoesRow.holds Tryz.pinned (OpenSpec.ofChange flatDoesWrong)

/-- 'flywheellaw22.FlatTwins': WHATEVER THE INPUT: true; the input reads as it did. -/
def flatTwinsSpec : ChangeSpec := { name := "flatTwins", fn := fun _ => fun
  | [d1, d2, d3, d4] => { results := [.lit (.bool true)], args := [d1, d2, d3, d4] }
  | _ => none }
def flatTwinsRow : OpenClaim := { program := "ytpmfcpdelkchaaagreat", sum := "9b1da90d3abb5157e2d5140675356ba2f02bc793a3fd7ce26fc4a4290b3c7ffe", func := "flywheel/flywheellaw22.FlatTwins", spec := "flatTwins", inPlace := ["slices.overlaps[flywheel/api.Sample]", "maps.clone", "math/bits.Add64"], unfollowed := true, recurses := true, plainKeys := false, apart := false }
def FlatTwinsSaid : Prop := flatTwinsRow.holds Tryz.pinned (OpenSpec.ofChange flatTwinsSpec)

/-- ITS FALSE NEIGHBOUR: 'it returns false'. Refute it at one input. -/
def flatTwinsWrong : ChangeSpec := { name := "flatTwins", fn := fun _ => fun
  | [d1, d2, d3, d4] => { results := [.lit (.bool false)], args := [d1, d2, d3, d4] }
  | _ => none }
def FlatTwinsWrongFalsely : Prop := flatTwinsRow.holds Tryz.pinned (OpenSpec.ofChange flatTwinsWrong)

/-- 'flywheellaw53.BatchSame': WHATEVER THE INPUT: true; the input reads as it did. -/
def batchSameSpec : ChangeSpec := { name := "batchSame", fn := fun _ => fun
  | [d1, d2, d3, d4] => { results := [.lit (.bool true)], args := [d1, d2, d3, d4] }
  | _ => none }
def batchSameRow : OpenClaim := { program := "ytpmfcpdelkchaaagreat", sum := "9b1da90d3abb5157e2d5140675356ba2f02bc793a3fd7ce26fc4a4290b3c7ffe", func := "flywheel/flywheellaw53.BatchSame", spec := "batchSame", inPlace := ["slices.overlaps[flywheel/api.Sample]", "maps.clone", "math/bits.Add64"], unfollowed := true, recurses := true, plainKeys := false, apart := false }
def BatchSameSaid : Prop := batchSameRow.holds Tryz.pinned (OpenSpec.ofChange batchSameSpec)

/-- ITS FALSE NEIGHBOUR: 'it returns false'. Refute it at one input. -/
def batchSameWrong : ChangeSpec := { name := "batchSame", fn := fun _ => fun
  | [d1, d2, d3, d4] => { results := [.lit (.bool false)], args := [d1, d2, d3, d4] }
  | _ => none }
def BatchSameWrongFalsely : Prop := batchSameRow.holds Tryz.pinned (OpenSpec.ofChange batchSameWrong)

/- THE SECOND FORM. 'bulk': how many values and letters a reading holds, each counted each time it is reached (what is shared counts as often as it is met; a slice's spare places count too). A statement '..UptoSaid' is the law's where the arguments, and the package variables that the reading takes, are together of bulk at most 1048576: NARROWER than '..Said'. Prove '..Said' where nothing that the law and all that it calls make is longer than what came in: it says more and counts as full. Else prove '..UptoSaid'. A law counts once. -/
mutual
def uptoBulk {H : Type} : DataW H → Nat
  | .lit (.string bytes) => bytes.length + 1
  | .lit _ => 1
  | .nil => 1
  | .ptr d => uptoBulk d + 1
  | .slice elems spare => uptoBulkAll elems + uptoBulkAll spare + 1
  | .agg parts => uptoBulkAll parts + 1
  | .iface _ d => uptoBulk d + 1
  | .map entries => uptoBulkEntries entries + 1
  | .held _ => 1
def uptoBulkAll {H : Type} : List (DataW H) → Nat
  | [] => 0
  | d :: r => uptoBulk d + uptoBulkAll r
def uptoBulkEntries {H : Type} : List (Lit × DataW H) → Nat
  | [] => 0
  | x :: r => uptoBulkEntry x + uptoBulkEntries r
def uptoBulkEntry {H : Type} : Lit × DataW H → Nat
  | (.string bytes, d) => bytes.length + uptoBulk d + 1
  | (_, d) => uptoBulk d + 1
 end
def uptoSmall : (H : Type) → List (DataW H) → Bool := fun _ ds => decide (uptoBulkAll ds ≤ 1048576)
def OpenSpec.upto (s : _root_.Go.ChangeSpec) : _root_.Go.OpenSpec := { _root_.Go.OpenSpec.ofChange s with cond := some uptoSmall }

/-- 'flywheellaw47.DifferLines', WHERE WHAT IT READS IS OF BULK AT MOST 1048576: true; the input reads as it did. -/
def differLinesUptoRow : OpenClaim := { program := "ytpmfcpdelkchaaagreat", sum := "9b1da90d3abb5157e2d5140675356ba2f02bc793a3fd7ce26fc4a4290b3c7ffe", func := "flywheel/flywheellaw47.DifferLines", spec := "differLines", inPlace := ["maps.clone", "slices.overlaps[flywheel/api.Sample]", "math/bits.Add64"], unfollowed := true, recurses := true, plainKeys := false, apart := false, narrowed := true }
def DifferLinesUptoSaid : Prop := differLinesUptoRow.holds Tryz.pinned (OpenSpec.upto differLinesSpec)

/-- 'flywheellaw47.DifferParts', WHERE WHAT IT READS IS OF BULK AT MOST 1048576: true; the input reads as it did. -/
def differPartsUptoRow : OpenClaim := { program := "ytpmfcpdelkchaaagreat", sum := "9b1da90d3abb5157e2d5140675356ba2f02bc793a3fd7ce26fc4a4290b3c7ffe", func := "flywheel/flywheellaw47.DifferParts", spec := "differParts", inPlace := ["maps.clone", "slices.overlaps[flywheel/api.Sample]", "math/bits.Add64"], unfollowed := true, recurses := true, plainKeys := false, apart := false, narrowed := true }
def DifferPartsUptoSaid : Prop := differPartsUptoRow.holds Tryz.pinned (OpenSpec.upto differPartsSpec)

/-- 'flywheellaw36.SearchFinds', WHERE WHAT IT READS IS OF BULK AT MOST 1048576: true; the input reads as it did. -/
def searchFindsUptoRow : OpenClaim := { program := "ytpmfcpdelkchaaagreat", sum := "9b1da90d3abb5157e2d5140675356ba2f02bc793a3fd7ce26fc4a4290b3c7ffe", func := "flywheel/flywheellaw36.SearchFinds", spec := "searchFinds", inPlace := ["maps.clone", "slices.overlaps[flywheel/api.Sample]", "math/bits.Add64"], unfollowed := true, recurses := true, plainKeys := false, apart := false, narrowed := true }
def SearchFindsUptoSaid : Prop := searchFindsUptoRow.holds Tryz.pinned (OpenSpec.upto searchFindsSpec)

/-- 'flywheellaw36.SearchWays', WHERE WHAT IT READS IS OF BULK AT MOST 1048576: true; the input reads as it did. -/
def searchWaysUptoRow : OpenClaim := { program := "ytpmfcpdelkchaaagreat", sum := "9b1da90d3abb5157e2d5140675356ba2f02bc793a3fd7ce26fc4a4290b3c7ffe", func := "flywheel/flywheellaw36.SearchWays", spec := "searchWays", inPlace := ["maps.clone", "slices.overlaps[flywheel/api.Sample]", "math/bits.Add64"], unfollowed := true, recurses := true, plainKeys := false, apart := false, narrowed := true }
def SearchWaysUptoSaid : Prop := searchWaysUptoRow.holds Tryz.pinned (OpenSpec.upto searchWaysSpec)

/-- 'flywheellaw35.OrderReplays', WHERE WHAT IT READS IS OF BULK AT MOST 1048576: true; the input reads as it did. -/
def orderReplaysUptoRow : OpenClaim := { program := "ytpmfcpdelkchaaagreat", sum := "9b1da90d3abb5157e2d5140675356ba2f02bc793a3fd7ce26fc4a4290b3c7ffe", func := "flywheel/flywheellaw35.OrderReplays", spec := "orderReplays", inPlace := ["slices.overlaps[flywheel/api.Sample]", "maps.clone", "math/bits.Add64"], unfollowed := true, recurses := true, plainKeys := false, apart := false, narrowed := true }
def OrderReplaysUptoSaid : Prop := orderReplaysUptoRow.holds Tryz.pinned (OpenSpec.upto orderReplaysSpec)

/-- 'flywheellaw35.OrderAfter', WHERE WHAT IT READS IS OF BULK AT MOST 1048576: true; the input reads as it did. -/
def orderAfterUptoRow : OpenClaim := { program := "ytpmfcpdelkchaaagreat", sum := "9b1da90d3abb5157e2d5140675356ba2f02bc793a3fd7ce26fc4a4290b3c7ffe", func := "flywheel/flywheellaw35.OrderAfter", spec := "orderAfter", inPlace := ["slices.overlaps[flywheel/api.Sample]", "maps.clone", "math/bits.Add64"], unfollowed := true, recurses := true, plainKeys := false, apart := false, narrowed := true }
def OrderAfterUptoSaid : Prop := orderAfterUptoRow.holds Tryz.pinned (OpenSpec.upto orderAfterSpec)

/-- 'flywheellaw22.FlatDoes', WHERE WHAT IT READS IS OF BULK AT MOST 1048576: true; the input reads as it did. -/
def flatDoesUptoRow : OpenClaim := { program := "ytpmfcpdelkchaaagreat", sum := "9b1da90d3abb5157e2d5140675356ba2f02bc793a3fd7ce26fc4a4290b3c7ffe", func := "flywheel/flywheellaw22.FlatDoes", spec := "flatDoes", inPlace := ["slices.overlaps[flywheel/api.Sample]", "maps.clone", "math/bits.Add64"], unfollowed := true, recurses := true, plainKeys := false, apart := false, narrowed := true }
def FlatDoesUptoSaid : Prop := flatDoesUptoRow.holds Tryz.pinned (OpenSpec.upto flatDoesSpec)

/-- 'flywheellaw22.FlatTwins', WHERE WHAT IT READS IS OF BULK AT MOST 1048576: true; the input reads as it did. -/
def flatTwinsUptoRow : OpenClaim := { program := "ytpmfcpdelkchaaagreat", sum := "9b1da90d3abb5157e2d5140675356ba2f02bc793a3fd7ce26fc4a4290b3c7ffe", func := "flywheel/flywheellaw22.FlatTwins", spec := "flatTwins", inPlace := ["slices.overlaps[flywheel/api.Sample]", "maps.clone", "math/bits.Add64"], unfollowed := true, recurses := true, plainKeys := false, apart := false, narrowed := true }
def FlatTwinsUptoSaid : Prop := flatTwinsUptoRow.holds Tryz.pinned (OpenSpec.upto flatTwinsSpec)

/-- 'flywheellaw53.BatchSame', WHERE WHAT IT READS IS OF BULK AT MOST 1048576: true; the input reads as it did. -/
def batchSameUptoRow : OpenClaim := { program := "ytpmfcpdelkchaaagreat", sum := "9b1da90d3abb5157e2d5140675356ba2f02bc793a3fd7ce26fc4a4290b3c7ffe", func := "flywheel/flywheellaw53.BatchSame", spec := "batchSame", inPlace := ["slices.overlaps[flywheel/api.Sample]", "maps.clone", "math/bits.Add64"], unfollowed := true, recurses := true, plainKeys := false, apart := false, narrowed := true }
def BatchSameUptoSaid : Prop := batchSameUptoRow.holds Tryz.pinned (OpenSpec.upto batchSameSpec)

end Rows
end Go.Proofs.YtpmfcpdelkchaaaGreat
