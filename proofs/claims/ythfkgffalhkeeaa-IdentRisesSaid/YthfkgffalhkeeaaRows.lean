/-
  No cell of these rows narrows 'for every input' (looked for: loops, veiled, ifaces, maps, wideKeys, modest, calm, conditions, laid).
  DERIVED. THE GIVEN ROWS OF THIS SEAT. 5 by the template 'for every input the law returns true; each argument reads behind the call as it read before'; 0 by the template 'total and deterministic' (their statements: YthfkgffalhkeeaaTotals.lean).
  GIVEN WITH THE SEED: the statements are not yours to turn. If you find one false, say at which input.
  Laid BY PROGRAM, IN A SANDBOX (cutbox-rows.mjs): the forced cells as the released guide's own fill.sh prints them over the translation 2e1b73bd17fa543b… (all of the seat's roots in one cut). By AI agents, Wed Nov 11 2026. No macro, syntax, notation, axiom, sorry.
-/
import Derived.Test.YthfkgffalhkeeaaChecked
import GoSem.Claim
import GoSem.ClaimJoined
import GoSem.ClaimMapViews
import Derived.JoinedTies
import Derived.KernelRfl
namespace Go.Proofs.Ythfkgffalhkeeaa
/- THE CELL 'sum', in the pinned program and in every row, IS THE sha256 OF THE DUMP (.gsa) THAT YthfkgffalhkeeaaProg.lean LOADS. Nothing in Lean hashes anything: it is a label: what it is worth is what the hold of that sum in a sandbox is worth. -/
noncomputable def Try.pinned : Pinned := { name := "ythfkgffalhkeeaa", sum := "2e1b73bd17fa543b9f2518b153b685ccd925b466cef2b179178c477a96d8fffc", checked := Try.checked }
namespace Rows
def none {H : Type} : Left H := { results := [], args := [] }

/-- 'flywheellaw03.IdentPacks': WHATEVER THE INPUT: true; the input reads as it did. -/
def identPacksSpec : ChangeSpec := { name := "identPacks", fn := fun _ => fun
  | [d] => { results := [.lit (.bool true)], args := [d] }
  | _ => none }
def identPacksRow : OpenClaim := { program := "ythfkgffalhkeeaa", sum := "2e1b73bd17fa543b9f2518b153b685ccd925b466cef2b179178c477a96d8fffc", func := "flywheel/flywheellaw03.IdentPacks", spec := "identPacks", apart := false }
def IdentPacksSaid : Prop := identPacksRow.holds Try.pinned (OpenSpec.ofChange identPacksSpec)

/-- ITS FALSE NEIGHBOUR: 'it returns false'. Refute it at one input. -/
def identPacksWrong : ChangeSpec := { name := "identPacks", fn := fun _ => fun
  | [d] => { results := [.lit (.bool false)], args := [d] }
  | _ => none }
def IdentPacksWrongFalsely : Prop := identPacksRow.holds Try.pinned (OpenSpec.ofChange identPacksWrong)

/-- 'flywheellaw03.IdentUnpacks': WHATEVER THE INPUT: true; the input reads as it did. -/
def identUnpacksSpec : ChangeSpec := { name := "identUnpacks", fn := fun _ => fun
  | [d] => { results := [.lit (.bool true)], args := [d] }
  | _ => none }
def identUnpacksRow : OpenClaim := { program := "ythfkgffalhkeeaa", sum := "2e1b73bd17fa543b9f2518b153b685ccd925b466cef2b179178c477a96d8fffc", func := "flywheel/flywheellaw03.IdentUnpacks", spec := "identUnpacks", apart := false }
def IdentUnpacksSaid : Prop := identUnpacksRow.holds Try.pinned (OpenSpec.ofChange identUnpacksSpec)

/-- ITS FALSE NEIGHBOUR: 'it returns false'. Refute it at one input. -/
def identUnpacksWrong : ChangeSpec := { name := "identUnpacks", fn := fun _ => fun
  | [d] => { results := [.lit (.bool false)], args := [d] }
  | _ => none }
def IdentUnpacksWrongFalsely : Prop := identUnpacksRow.holds Try.pinned (OpenSpec.ofChange identUnpacksWrong)

/-- 'flywheellaw03.IdentOrders': WHATEVER THE INPUT: true; the input reads as it did. -/
def identOrdersSpec : ChangeSpec := { name := "identOrders", fn := fun _ => fun
  | [d1, d2] => { results := [.lit (.bool true)], args := [d1, d2] }
  | _ => none }
def identOrdersRow : OpenClaim := { program := "ythfkgffalhkeeaa", sum := "2e1b73bd17fa543b9f2518b153b685ccd925b466cef2b179178c477a96d8fffc", func := "flywheel/flywheellaw03.IdentOrders", spec := "identOrders", apart := false }
def IdentOrdersSaid : Prop := identOrdersRow.holds Try.pinned (OpenSpec.ofChange identOrdersSpec)

/-- ITS FALSE NEIGHBOUR: 'it returns false'. Refute it at one input. -/
def identOrdersWrong : ChangeSpec := { name := "identOrders", fn := fun _ => fun
  | [d1, d2] => { results := [.lit (.bool false)], args := [d1, d2] }
  | _ => none }
def IdentOrdersWrongFalsely : Prop := identOrdersRow.holds Try.pinned (OpenSpec.ofChange identOrdersWrong)

/-- 'flywheellaw39.BoundTells': WHATEVER THE INPUT: true; the input reads as it did. -/
def boundTellsSpec : ChangeSpec := { name := "boundTells", fn := fun _ => fun
  | [d1, d2, d3] => { results := [.lit (.bool true)], args := [d1, d2, d3] }
  | _ => none }
def boundTellsRow : OpenClaim := { program := "ythfkgffalhkeeaa", sum := "2e1b73bd17fa543b9f2518b153b685ccd925b466cef2b179178c477a96d8fffc", func := "flywheel/flywheellaw39.BoundTells", spec := "boundTells", apart := false }
def BoundTellsSaid : Prop := boundTellsRow.holds Try.pinned (OpenSpec.ofChange boundTellsSpec)

/-- ITS FALSE NEIGHBOUR: 'it returns false'. Refute it at one input. -/
def boundTellsWrong : ChangeSpec := { name := "boundTells", fn := fun _ => fun
  | [d1, d2, d3] => { results := [.lit (.bool false)], args := [d1, d2, d3] }
  | _ => none }
def BoundTellsWrongFalsely : Prop := boundTellsRow.holds Try.pinned (OpenSpec.ofChange boundTellsWrong)

/-- 'flywheellaw03.IdentRises': WHATEVER THE INPUT: true; the input reads as it did. -/
def identRisesSpec : ChangeSpec := { name := "identRises", fn := fun _ => fun
  | [d] => { results := [.lit (.bool true)], args := [d] }
  | _ => none }
def identRisesRow : OpenClaim := { program := "ythfkgffalhkeeaa", sum := "2e1b73bd17fa543b9f2518b153b685ccd925b466cef2b179178c477a96d8fffc", func := "flywheel/flywheellaw03.IdentRises", spec := "identRises", unfollowed := true, recurses := true, apart := false }
def IdentRisesSaid : Prop := identRisesRow.holds Try.pinned (OpenSpec.ofChange identRisesSpec)

/-- ITS FALSE NEIGHBOUR: 'it returns false'. Refute it at one input. -/
def identRisesWrong : ChangeSpec := { name := "identRises", fn := fun _ => fun
  | [d] => { results := [.lit (.bool false)], args := [d] }
  | _ => none }
def IdentRisesWrongFalsely : Prop := identRisesRow.holds Try.pinned (OpenSpec.ofChange identRisesWrong)

/- THE SECOND FORM. 'bulk': how many values and letters a reading holds, each counted each time it is reached (what is shared counts as often as it is met; a slice's spare places count too). A statement '..UptoSaid' is the law's where the arguments, and the package variables that the reading takes, are together of bulk at most 1048576: NARROWER than '..Said'. Prove '..Said' where nothing that the law and all that it calls make is longer than what came in: it says more and counts as full. Else prove '..UptoSaid'. A law counts once. -/
mutual
def uptoBulk {H : Type} : DataW H → Nat
  | .lit (.string bytes) => bytes.length + 1
  | .lit _ => 1
  | .nil => 1
  | .ptr d => uptoBulk d + 1
  | .slice elems spare => uptoBulkAll elems + uptoBulkAll spare + 1
  | .agg parts => uptoBulkAll parts + 1
  | .iface _ d => uptoBulk d + 1
  | .map entries => uptoBulkEntries entries + 1
  | .held _ => 1
def uptoBulkAll {H : Type} : List (DataW H) → Nat
  | [] => 0
  | d :: r => uptoBulk d + uptoBulkAll r
def uptoBulkEntries {H : Type} : List (Lit × DataW H) → Nat
  | [] => 0
  | x :: r => uptoBulkEntry x + uptoBulkEntries r
def uptoBulkEntry {H : Type} : Lit × DataW H → Nat
  | (.string bytes, d) => bytes.length + uptoBulk d + 1
  | (_, d) => uptoBulk d + 1
 end
def uptoSmall : (H : Type) → List (DataW H) → Bool := fun _ ds => decide (uptoBulkAll ds ≤ 1048576)
def OpenSpec.upto (s : _root_.Go.ChangeSpec) : _root_.Go.OpenSpec := { _root_.Go.OpenSpec.ofChange s with cond := some uptoSmall }

/-- 'flywheellaw03.IdentPacks', WHERE WHAT IT READS IS OF BULK AT MOST 1048576: true; the input reads as it did. -/
def identPacksUptoRow : OpenClaim := { program := "ythfkgffalhkeeaa", sum := "2e1b73bd17fa543b9f2518b153b685ccd925b466cef2b179178c477a96d8fffc", func := "flywheel/flywheellaw03.IdentPacks", spec := "identPacks", apart := false, narrowed := true }
def IdentPacksUptoSaid : Prop := identPacksUptoRow.holds Try.pinned (OpenSpec.upto identPacksSpec)

/-- 'flywheellaw03.IdentUnpacks', WHERE WHAT IT READS IS OF BULK AT MOST 1048576: true; the input reads as it did. -/
def identUnpacksUptoRow : OpenClaim := { program := "ythfkgffalhkeeaa", sum := "2e1b73bd17fa543b9f2518b153b685ccd925b466cef2b179178c477a96d8fffc", func := "flywheel/flywheellaw03.IdentUnpacks", spec := "identUnpacks", apart := false, narrowed := true }
def IdentUnpacksUptoSaid : Prop := identUnpacksUptoRow.holds Try.pinned (OpenSpec.upto identUnpacksSpec)

/-- 'flywheellaw03.IdentOrders', WHERE WHAT IT READS IS OF BULK AT MOST 1048576: true; the input reads as it did. -/
def identOrdersUptoRow : OpenClaim := { program := "ythfkgffalhkeeaa", sum := "2e1b73bd17fa543b9f2518b153b685ccd925b466cef2b179178c477a96d8fffc", func := "flywheel/flywheellaw03.IdentOrders", spec := "identOrders", apart := false, narrowed := true }
def IdentOrdersUptoSaid : Prop := identOrdersUptoRow.holds Try.pinned (OpenSpec.upto identOrdersSpec)

/-- 'flywheellaw39.BoundTells', WHERE WHAT IT READS IS OF BULK AT MOST 1048576: true; the input reads as it did. -/
def boundTellsUptoRow : OpenClaim := { program := "ythfkgffalhkeeaa", sum := "2e1b73bd17fa543b9f2518b153b685ccd925b466cef2b179178c477a96d8fffc", func := "flywheel/flywheellaw39.BoundTells", spec := "boundTells", apart := false, narrowed := true }
def BoundTellsUptoSaid : Prop := boundTellsUptoRow.holds Try.pinned (OpenSpec.upto boundTellsSpec)

/-- 'flywheellaw03.IdentRises', WHERE WHAT IT READS IS OF BULK AT MOST 1048576: true; the input reads as it did. -/
def identRisesUptoRow : OpenClaim := { program := "ythfkgffalhkeeaa", sum := "2e1b73bd17fa543b9f2518b153b685ccd925b466cef2b179178c477a96d8fffc", func := "flywheel/flywheellaw03.IdentRises", spec := "identRises", unfollowed := true, recurses := true, apart := false, narrowed := true }
def IdentRisesUptoSaid : Prop := identRisesUptoRow.holds Try.pinned (OpenSpec.upto identRisesSpec)

end Rows
end Go.Proofs.Ythfkgffalhkeeaa
