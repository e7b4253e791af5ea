/-
  DERIVED. GIVEN WITH THE SEED: THE CARDS: each row of YthgjgiccoobcgaaGreatDoorRows.lean that lists a variable, with what it lists TIED to the program's text (the seventh form; the later family's looks); each row that meets fmt, with fmt's text TOLD by the authors' own Lean function (tested against real Go, not proved from fmt's source: count such statements apart). THE CARD IS WHAT COUNTS. Prove the row's statement (the work); the ties are given (YthgjgiccoobcgaaGreatDoorTie.lean); close each card by the builder's one call (the guide's Derived/Test/ToyasCard.lean, 'card_holds'). Laid BY PROGRAM, IN A SANDBOX (cutbox-door.mjs). By AI agents, Wed Nov 11 2026. No macro, syntax, notation, axiom, sorry.
-/
import Derived.Test.YthgjgiccoobcgaaGreatDoorRows
import GoSem.ClaimSeven
namespace Go.Proofs.YthgjgiccoobcgaaGreatDoor
namespace Rows

/-- THE TIED CARD OF 'deadwaxlaw1.ClockFitMatchesSpec'. -/
def clockFitMatchesSpecCard : Claim7 := { stood := { row := clockFitMatchesSpecRow, standIns := [], harness := (true, "35418922adf11f07e9e7250633981e453c6d558c3405a454f0d52eabe1ab5cd9"), looks := true }, kinds := [], alts := [], laidByText := true, laidKinds := [.data, .data, .data, .sentinel, .sentinel], laidTests := true, laidLooks := .later }
def ClockFitMatchesSpecCardSaid : Prop := Claim7.holds Tryz.pinned (.plain (OpenSpec.ofChange clockFitMatchesSpecSpec)) clockFitMatchesSpecCard

/-- THE TIED CARD OF 'deadwaxlaw1.ClockTextsMatchSpec'. -/
def clockTextsMatchSpecCard : Claim7 := { stood := { row := clockTextsMatchSpecRow, standIns := [], harness := (true, "35418922adf11f07e9e7250633981e453c6d558c3405a454f0d52eabe1ab5cd9"), looks := true }, kinds := [], alts := [], laidByText := true, laidKinds := [.data, .data, .data, .data, .sentinel, .sentinel, .pinned], laidTests := true, laidLooks := .later }
def ClockTextsMatchSpecCardSaid : Prop := Claim7.holds Tryz.pinned (.plain (OpenSpec.ofChange clockTextsMatchSpecSpec)) clockTextsMatchSpecCard

/-- THE SECOND FORM's CARD OF 'deadwaxlaw1.ClockFitMatchesSpec'. -/
def clockFitMatchesSpecUptoCard : Claim7 := { stood := { row := clockFitMatchesSpecUptoRow, standIns := [], harness := (true, "35418922adf11f07e9e7250633981e453c6d558c3405a454f0d52eabe1ab5cd9"), looks := true }, kinds := [], alts := [], laidByText := true, laidKinds := [.data, .data, .data, .sentinel, .sentinel], laidTests := true, laidLooks := .later }
def ClockFitMatchesSpecUptoCardSaid : Prop := Claim7.holds Tryz.pinned (.plain (OpenSpec.upto clockFitMatchesSpecSpec)) clockFitMatchesSpecUptoCard

/-- THE SECOND FORM's CARD OF 'deadwaxlaw1.ClockTextsMatchSpec'. -/
def clockTextsMatchSpecUptoCard : Claim7 := { stood := { row := clockTextsMatchSpecUptoRow, standIns := [], harness := (true, "35418922adf11f07e9e7250633981e453c6d558c3405a454f0d52eabe1ab5cd9"), looks := true }, kinds := [], alts := [], laidByText := true, laidKinds := [.data, .data, .data, .data, .sentinel, .sentinel, .pinned], laidTests := true, laidLooks := .later }
def ClockTextsMatchSpecUptoCardSaid : Prop := Claim7.holds Tryz.pinned (.plain (OpenSpec.upto clockTextsMatchSpecSpec)) clockTextsMatchSpecUptoCard
end Rows
end Go.Proofs.YthgjgiccoobcgaaGreatDoor
