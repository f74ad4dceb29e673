/-
  DERIVED. GIVEN WITH THE SEED: THE CARDS: each row of YtmndhffimlkjgaaDoorRows.lean that lists a variable, with what it lists TIED to the program's text (the seventh form; the later family's looks); each row that meets fmt, with fmt's text TOLD by the authors' own Lean function (tested against real Go, not proved from fmt's source: count such statements apart). THE CARD IS WHAT COUNTS. Prove the row's statement (the work); the ties are given (YtmndhffimlkjgaaDoorTie.lean); close each card by the builder's one call (the guide's Derived/Test/ToyasCard.lean, 'card_holds'). Laid BY PROGRAM, IN A SANDBOX (cutbox-door.mjs). By AI agents, Wed Nov 11 2026. No macro, syntax, notation, axiom, sorry.
-/
import Derived.Test.YtmndhffimlkjgaaDoorRows
import GoSem.ClaimSeven
namespace Go.Proofs.YtmndhffimlkjgaaDoor
namespace Rows

/-- THE TIED CARD OF 'flywheellaw43.ReportEvents'. -/
def reportEventsCard : Claim7 := { stood := { row := reportEventsRow, standIns := [], harness := (true, "eae9995a5eb2369a7d89759886003450852b11458e334c77b1a9326f2b55387c"), looks := false }, kinds := [], alts := [], laidByText := true, laidKinds := [.data, .data, .data], laidTests := true, laidLooks := .later }
def ReportEventsCardSaid : Prop := Claim7.holds Tryd.pinned (.plain (OpenSpec.ofChange reportEventsSpec)) reportEventsCard

/-- THE SECOND FORM's CARD OF 'flywheellaw43.ReportEvents'. -/
def reportEventsUptoCard : Claim7 := { stood := { row := reportEventsUptoRow, standIns := [], harness := (true, "eae9995a5eb2369a7d89759886003450852b11458e334c77b1a9326f2b55387c"), looks := false }, kinds := [], alts := [], laidByText := true, laidKinds := [.data, .data, .data], laidTests := true, laidLooks := .later }
def ReportEventsUptoCardSaid : Prop := Claim7.holds Tryd.pinned (.plain (OpenSpec.upto reportEventsSpec)) reportEventsUptoCard
end Rows
end Go.Proofs.YtmndhffimlkjgaaDoor
