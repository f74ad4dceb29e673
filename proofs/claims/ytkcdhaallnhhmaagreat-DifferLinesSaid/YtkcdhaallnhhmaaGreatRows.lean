/-
  No cell of these rows narrows 'for every input' (looked for: loops, veiled, ifaces, maps, wideKeys, modest, calm, conditions, laid).
  DERIVED. THE GIVEN ROWS OF THIS SEAT. 5 by the template 'for every input the law returns true; each argument reads behind the call as it read before'; 0 by the template 'total and deterministic' (their statements: YtkcdhaallnhhmaaGreatTotals.lean).
  GIVEN WITH THE SEED: the statements are not yours to turn. If you find one false, say at which input.
  Laid BY PROGRAM, IN A SANDBOX (cutbox-rows.mjs): the forced cells as the released guide's own fill.sh prints them over the translation 9dfcc6b3d7305be3… (all of the seat's roots in one cut). By AI agents, Wed Nov 11 2026. No macro, syntax, notation, axiom, sorry.
-/
import Derived.Test.YtkcdhaallnhhmaaGreatChecked
import GoSem.Claim
import GoSem.ClaimJoined
import GoSem.ClaimMapViews
import Derived.JoinedTies
import Derived.KernelRfl
namespace Go.Proofs.YtkcdhaallnhhmaaGreat
/- THE CELL 'sum', in the pinned program and in every row, IS THE sha256 OF THE DUMP (.gsa) THAT YtkcdhaallnhhmaaGreatProg.lean LOADS. Nothing in Lean hashes anything: it is a label: what it is worth is what the hold of that sum in a sandbox is worth. -/
noncomputable def Tryz.pinned : Pinned := { name := "ytkcdhaallnhhmaagreat", sum := "9dfcc6b3d7305be3a6ff4d9d844b08597fbd39586fc69930f1af8c7a9d291184", checked := Tryz.checked }
namespace Rows
def none {H : Type} : Left H := { results := [], args := [] }

/-- 'flywheellaw47.DifferLines': WHATEVER THE INPUT: true; the input reads as it did. -/
def differLinesSpec : ChangeSpec := { name := "differLines", fn := fun _ => fun
  | [d1, d2, d3, d4] => { results := [.lit (.bool true)], args := [d1, d2, d3, d4] }
  | _ => none }
def differLinesRow : OpenClaim := { program := "ytkcdhaallnhhmaagreat", sum := "9dfcc6b3d7305be3a6ff4d9d844b08597fbd39586fc69930f1af8c7a9d291184", func := "flywheel/flywheellaw47.DifferLines", spec := "differLines", inPlace := ["maps.clone", "slices.overlaps[flywheel/api.Sample]", "math/bits.Add64"], unfollowed := true, recurses := true, plainKeys := false, apart := false }
def DifferLinesSaid : Prop := differLinesRow.holds Tryz.pinned (OpenSpec.ofChange differLinesSpec)

/-- ITS FALSE NEIGHBOUR: 'it returns false'. Refute it at one input. -/
def differLinesWrong : ChangeSpec := { name := "differLines", fn := fun _ => fun
  | [d1, d2, d3, d4] => { results := [.lit (.bool false)], args := [d1, d2, d3, d4] }
  | _ => none }
def DifferLinesWrongFalsely : Prop := differLinesRow.holds Tryz.pinned (OpenSpec.ofChange differLinesWrong)

/-- 'flywheellaw47.DifferParts': WHATEVER THE INPUT: true; the input reads as it did. -/
def differPartsSpec : ChangeSpec := { name := "differParts", fn := fun _ => fun
  | [d1, d2] => { results := [.lit (.bool true)], args := [d1, d2] }
  | _ => none }
def differPartsRow : OpenClaim := { program := "ytkcdhaallnhhmaagreat", sum := "9dfcc6b3d7305be3a6ff4d9d844b08597fbd39586fc69930f1af8c7a9d291184", func := "flywheel/flywheellaw47.DifferParts", spec := "differParts", inPlace := ["maps.clone", "slices.overlaps[flywheel/api.Sample]", "math/bits.Add64"], unfollowed := true, recurses := true, plainKeys := false, apart := false }
def DifferPartsSaid : Prop := differPartsRow.holds Tryz.pinned (OpenSpec.ofChange differPartsSpec)

/-- ITS FALSE NEIGHBOUR: 'it returns false'. Refute it at one input. -/
def differPartsWrong : ChangeSpec := { name := "differParts", fn := fun _ => fun
  | [d1, d2] => { results := [.lit (.bool false)], args := [d1, d2] }
  | _ => none }
def DifferPartsWrongFalsely : Prop := differPartsRow.holds Tryz.pinned (OpenSpec.ofChange differPartsWrong)

/-- 'flywheellaw36.SearchFinds': WHATEVER THE INPUT: true; the input reads as it did. -/
def searchFindsSpec : ChangeSpec := { name := "searchFinds", fn := fun _ => fun
  | [d1, d2] => { results := [.lit (.bool true)], args := [d1, d2] }
  | _ => none }
def searchFindsRow : OpenClaim := { program := "ytkcdhaallnhhmaagreat", sum := "9dfcc6b3d7305be3a6ff4d9d844b08597fbd39586fc69930f1af8c7a9d291184", func := "flywheel/flywheellaw36.SearchFinds", spec := "searchFinds", inPlace := ["maps.clone", "slices.overlaps[flywheel/api.Sample]", "math/bits.Add64"], unfollowed := true, recurses := true, plainKeys := false, apart := false }
def SearchFindsSaid : Prop := searchFindsRow.holds Tryz.pinned (OpenSpec.ofChange searchFindsSpec)

/-- ITS FALSE NEIGHBOUR: 'it returns false'. Refute it at one input. -/
def searchFindsWrong : ChangeSpec := { name := "searchFinds", fn := fun _ => fun
  | [d1, d2] => { results := [.lit (.bool false)], args := [d1, d2] }
  | _ => none }
def SearchFindsWrongFalsely : Prop := searchFindsRow.holds Tryz.pinned (OpenSpec.ofChange searchFindsWrong)

/-- 'flywheellaw36.SearchWays': WHATEVER THE INPUT: true; the input reads as it did. -/
def searchWaysSpec : ChangeSpec := { name := "searchWays", fn := fun _ => fun
  | [d1, d2, d3] => { results := [.lit (.bool true)], args := [d1, d2, d3] }
  | _ => none }
def searchWaysRow : OpenClaim := { program := "ytkcdhaallnhhmaagreat", sum := "9dfcc6b3d7305be3a6ff4d9d844b08597fbd39586fc69930f1af8c7a9d291184", func := "flywheel/flywheellaw36.SearchWays", spec := "searchWays", inPlace := ["maps.clone", "slices.overlaps[flywheel/api.Sample]", "math/bits.Add64"], unfollowed := true, recurses := true, plainKeys := false, apart := false }
def SearchWaysSaid : Prop := searchWaysRow.holds Tryz.pinned (OpenSpec.ofChange searchWaysSpec)

/-- ITS FALSE NEIGHBOUR: 'it returns false'. Refute it at one input. -/
def searchWaysWrong : ChangeSpec := { name := "searchWays", fn := fun _ => fun
  | [d1, d2, d3] => { results := [.lit (.bool false)], args := [d1, d2, d3] }
  | _ => none }
def SearchWaysWrongFalsely : Prop := searchWaysRow.holds Tryz.pinned (OpenSpec.ofChange searchWaysWrong)

/-- 'flywheellaw35.OrderReplays': WHATEVER THE INPUT: true; the input reads as it did. -/
def orderReplaysSpec : ChangeSpec := { name := "orderReplays", fn := fun _ => fun
  | [d1, d2] => { results := [.lit (.bool true)], args := [d1, d2] }
  | _ => none }
def orderReplaysRow : OpenClaim := { program := "ytkcdhaallnhhmaagreat", sum := "9dfcc6b3d7305be3a6ff4d9d844b08597fbd39586fc69930f1af8c7a9d291184", func := "flywheel/flywheellaw35.OrderReplays", spec := "orderReplays", inPlace := ["slices.overlaps[flywheel/api.Sample]", "maps.clone", "math/bits.Add64"], unfollowed := true, recurses := true, plainKeys := false, apart := false }
def OrderReplaysSaid : Prop := orderReplaysRow.holds Tryz.pinned (OpenSpec.ofChange orderReplaysSpec)

/-- ITS FALSE NEIGHBOUR: 'it returns false'. Refute it at one input. -/
def orderReplaysWrong : ChangeSpec := { name := "orderReplays", fn := fun _ => fun
  | [d1, d2] => { results := [.lit (.bool false)], args := [d1, d2] }
  | _ => none }
def OrderReplaysWrongFalsely : Prop := orderReplaysRow.holds Tryz.pinned (OpenSpec.ofChange orderReplaysWrong)

/- THE SECOND FORM. 'bulk': how many values and letters a reading holds, each counted each time it is reached (what is shared counts as often as it is met; a slice's spare places count too). A statement '..UptoSaid' is the law's where the arguments, and the package variables that the reading takes, are together of bulk at most 1048576: NARROWER than '..Said'. Prove '..Said' where nothing that the law and all that it calls make is longer than what came in: it says more and counts as full. Else prove '..UptoSaid'. A law counts once. -/
mutual
def uptoBulk {H : Type} : DataW H → Nat
  | .lit (.string bytes) => bytes.length + 1
  | .lit _ => 1
  | .nil => 1
  | .ptr d => uptoBulk d + 1
  | .slice elems spare => uptoBulkAll elems + uptoBulkAll spare + 1
  | .agg parts => uptoBulkAll parts + 1
  | .iface _ d => uptoBulk d + 1
  | .map entries => uptoBulkEntries entries + 1
  | .held _ => 1
def uptoBulkAll {H : Type} : List (DataW H) → Nat
  | [] => 0
  | d :: r => uptoBulk d + uptoBulkAll r
def uptoBulkEntries {H : Type} : List (Lit × DataW H) → Nat
  | [] => 0
  | x :: r => uptoBulkEntry x + uptoBulkEntries r
def uptoBulkEntry {H : Type} : Lit × DataW H → Nat
  | (.string bytes, d) => bytes.length + uptoBulk d + 1
  | (_, d) => uptoBulk d + 1
 end
def uptoSmall : (H : Type) → List (DataW H) → Bool := fun _ ds => decide (uptoBulkAll ds ≤ 1048576)
def OpenSpec.upto (s : _root_.Go.ChangeSpec) : _root_.Go.OpenSpec := { _root_.Go.OpenSpec.ofChange s with cond := some uptoSmall }

/-- 'flywheellaw47.DifferLines', WHERE WHAT IT READS IS OF BULK AT MOST 1048576: true; the input reads as it did. -/
def differLinesUptoRow : OpenClaim := { program := "ytkcdhaallnhhmaagreat", sum := "9dfcc6b3d7305be3a6ff4d9d844b08597fbd39586fc69930f1af8c7a9d291184", func := "flywheel/flywheellaw47.DifferLines", spec := "differLines", inPlace := ["maps.clone", "slices.overlaps[flywheel/api.Sample]", "math/bits.Add64"], unfollowed := true, recurses := true, plainKeys := false, apart := false, narrowed := true }
def DifferLinesUptoSaid : Prop := differLinesUptoRow.holds Tryz.pinned (OpenSpec.upto differLinesSpec)

/-- 'flywheellaw47.DifferParts', WHERE WHAT IT READS IS OF BULK AT MOST 1048576: true; the input reads as it did. -/
def differPartsUptoRow : OpenClaim := { program := "ytkcdhaallnhhmaagreat", sum := "9dfcc6b3d7305be3a6ff4d9d844b08597fbd39586fc69930f1af8c7a9d291184", func := "flywheel/flywheellaw47.DifferParts", spec := "differParts", inPlace := ["maps.clone", "slices.overlaps[flywheel/api.Sample]", "math/bits.Add64"], unfollowed := true, recurses := true, plainKeys := false, apart := false, narrowed := true }
def DifferPartsUptoSaid : Prop := differPartsUptoRow.holds Tryz.pinned (OpenSpec.upto differPartsSpec)

/-- 'flywheellaw36.SearchFinds', WHERE WHAT IT READS IS OF BULK AT MOST 1048576: true; the input reads as it did. -/
def searchFindsUptoRow : OpenClaim := { program := "ytkcdhaallnhhmaagreat", sum := "9dfcc6b3d7305be3a6ff4d9d844b08597fbd39586fc69930f1af8c7a9d291184", func := "flywheel/flywheellaw36.SearchFinds", spec := "searchFinds", inPlace := ["maps.clone", "slices.overlaps[flywheel/api.Sample]", "math/bits.Add64"], unfollowed := true, recurses := true, plainKeys := false, apart := false, narrowed := true }
def SearchFindsUptoSaid : Prop := searchFindsUptoRow.holds Tryz.pinned (OpenSpec.upto searchFindsSpec)

/-- 'flywheellaw36.SearchWays', WHERE WHAT IT READS IS OF BULK AT MOST 1048576: true; the input reads as it did. -/
def searchWaysUptoRow : OpenClaim := { program := "ytkcdhaallnhhmaagreat", sum := "9dfcc6b3d7305be3a6ff4d9d844b08597fbd39586fc69930f1af8c7a9d291184", func := "flywheel/flywheellaw36.SearchWays", spec := "searchWays", inPlace := ["maps.clone", "slices.overlaps[flywheel/api.Sample]", "math/bits.Add64"], unfollowed := true, recurses := true, plainKeys := false, apart := false, narrowed := true }
def SearchWaysUptoSaid : Prop := searchWaysUptoRow.holds Tryz.pinned (OpenSpec.upto searchWaysSpec)

/-- 'flywheellaw35.OrderReplays', WHERE WHAT IT READS IS OF BULK AT MOST 1048576: true; the input reads as it did. -/
def orderReplaysUptoRow : OpenClaim := { program := "ytkcdhaallnhhmaagreat", sum := "9dfcc6b3d7305be3a6ff4d9d844b08597fbd39586fc69930f1af8c7a9d291184", func := "flywheel/flywheellaw35.OrderReplays", spec := "orderReplays", inPlace := ["slices.overlaps[flywheel/api.Sample]", "maps.clone", "math/bits.Add64"], unfollowed := true, recurses := true, plainKeys := false, apart := false, narrowed := true }
def OrderReplaysUptoSaid : Prop := orderReplaysUptoRow.holds Tryz.pinned (OpenSpec.upto orderReplaysSpec)

end Rows
end Go.Proofs.YtkcdhaallnhhmaaGreat
