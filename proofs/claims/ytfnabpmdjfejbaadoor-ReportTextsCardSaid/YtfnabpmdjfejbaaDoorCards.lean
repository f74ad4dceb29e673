/-
  DERIVED. GIVEN WITH THE SEED: THE CARDS: each row of YtfnabpmdjfejbaaDoorRows.lean that lists a variable, with what it lists TIED to the program's text (the seventh form; the later family's looks); each row that meets fmt, with fmt's text TOLD by the authors' own Lean function (tested against real Go, not proved from fmt's source: count such statements apart). THE CARD IS WHAT COUNTS. Prove the row's statement (the work); the ties are given (YtfnabpmdjfejbaaDoorTie.lean); close each card by the builder's one call (the guide's Derived/Test/ToyasCard.lean, 'card_holds'). Laid BY PROGRAM, IN A SANDBOX (cutbox-door.mjs). By AI agents, Wed Nov 11 2026. No macro, syntax, notation, axiom, sorry.
-/
import Derived.Test.YtfnabpmdjfejbaaDoorRows
import GoSem.ClaimSeven
namespace Go.Proofs.YtfnabpmdjfejbaaDoor
namespace Rows

/-- THE TIED CARD OF 'flywheellaw50.JournalPuts'. -/
def journalPutsCard : Claim7 := { stood := { row := journalPutsRow, standIns := [], harness := (true, "4939674428ed4f6ac538636ab310368b19ca01dc38896f2c9bea6663e59689f9"), looks := false }, kinds := [], alts := [], laidByText := true, laidKinds := [.data, .data, .data], laidTests := true, laidLooks := .later }
def JournalPutsCardSaid : Prop := Claim7.holds Tryd.pinned (.plain (OpenSpec.ofChange journalPutsSpec)) journalPutsCard

/-- THE TIED CARD OF 'flywheellaw50.JournalGets'. -/
def journalGetsCard : Claim7 := { stood := { row := journalGetsRow, standIns := [], harness := (true, "4939674428ed4f6ac538636ab310368b19ca01dc38896f2c9bea6663e59689f9"), looks := false }, kinds := [], alts := [], laidByText := true, laidKinds := [.data, .data, .data], laidTests := true, laidLooks := .later }
def JournalGetsCardSaid : Prop := Claim7.holds Tryd.pinned (.plain (OpenSpec.ofChange journalGetsSpec)) journalGetsCard

/-- THE TIED CARD OF 'flywheellaw43.ReportTexts'. -/
def reportTextsCard : Claim7 := { stood := { row := reportTextsRow, standIns := [], harness := (true, "4939674428ed4f6ac538636ab310368b19ca01dc38896f2c9bea6663e59689f9"), looks := false }, kinds := [], alts := [], laidByText := true, laidKinds := [.data, .data, .data], laidTests := true, laidLooks := .later }
def ReportTextsCardSaid : Prop := Claim7.holds Tryd.pinned (.plain (OpenSpec.ofChange reportTextsSpec)) reportTextsCard

/-- THE TIED CARD OF 'flywheellaw50.JournalCuts'. -/
def journalCutsCard : Claim7 := { stood := { row := journalCutsRow, standIns := [], harness := (true, "4939674428ed4f6ac538636ab310368b19ca01dc38896f2c9bea6663e59689f9"), looks := false }, kinds := [], alts := [], laidByText := true, laidKinds := [.data, .data, .data], laidTests := true, laidLooks := .later }
def JournalCutsCardSaid : Prop := Claim7.holds Tryd.pinned (.plain (OpenSpec.ofChange journalCutsSpec)) journalCutsCard

/-- THE SECOND FORM's CARD OF 'flywheellaw50.JournalPuts'. -/
def journalPutsUptoCard : Claim7 := { stood := { row := journalPutsUptoRow, standIns := [], harness := (true, "4939674428ed4f6ac538636ab310368b19ca01dc38896f2c9bea6663e59689f9"), looks := false }, kinds := [], alts := [], laidByText := true, laidKinds := [.data, .data, .data], laidTests := true, laidLooks := .later }
def JournalPutsUptoCardSaid : Prop := Claim7.holds Tryd.pinned (.plain (OpenSpec.upto journalPutsSpec)) journalPutsUptoCard

/-- THE SECOND FORM's CARD OF 'flywheellaw50.JournalGets'. -/
def journalGetsUptoCard : Claim7 := { stood := { row := journalGetsUptoRow, standIns := [], harness := (true, "4939674428ed4f6ac538636ab310368b19ca01dc38896f2c9bea6663e59689f9"), looks := false }, kinds := [], alts := [], laidByText := true, laidKinds := [.data, .data, .data], laidTests := true, laidLooks := .later }
def JournalGetsUptoCardSaid : Prop := Claim7.holds Tryd.pinned (.plain (OpenSpec.upto journalGetsSpec)) journalGetsUptoCard

/-- THE SECOND FORM's CARD OF 'flywheellaw43.ReportTexts'. -/
def reportTextsUptoCard : Claim7 := { stood := { row := reportTextsUptoRow, standIns := [], harness := (true, "4939674428ed4f6ac538636ab310368b19ca01dc38896f2c9bea6663e59689f9"), looks := false }, kinds := [], alts := [], laidByText := true, laidKinds := [.data, .data, .data], laidTests := true, laidLooks := .later }
def ReportTextsUptoCardSaid : Prop := Claim7.holds Tryd.pinned (.plain (OpenSpec.upto reportTextsSpec)) reportTextsUptoCard

/-- THE SECOND FORM's CARD OF 'flywheellaw50.JournalCuts'. -/
def journalCutsUptoCard : Claim7 := { stood := { row := journalCutsUptoRow, standIns := [], harness := (true, "4939674428ed4f6ac538636ab310368b19ca01dc38896f2c9bea6663e59689f9"), looks := false }, kinds := [], alts := [], laidByText := true, laidKinds := [.data, .data, .data], laidTests := true, laidLooks := .later }
def JournalCutsUptoCardSaid : Prop := Claim7.holds Tryd.pinned (.plain (OpenSpec.upto journalCutsSpec)) journalCutsUptoCard
end Rows
end Go.Proofs.YtfnabpmdjfejbaaDoor
