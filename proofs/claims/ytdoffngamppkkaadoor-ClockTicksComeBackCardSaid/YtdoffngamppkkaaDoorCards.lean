/-
  DERIVED. GIVEN WITH THE SEED: THE CARDS: each row of YtdoffngamppkkaaDoorRows.lean that lists a variable, with what it lists TIED to the program's text (the seventh form; the later family's looks); each row that meets fmt, with fmt's text TOLD by the authors' own Lean function (tested against real Go, not proved from fmt's source: count such statements apart). THE CARD IS WHAT COUNTS. Prove the row's statement (the work); the ties are given (YtdoffngamppkkaaDoorTie.lean); close each card by the builder's one call (the guide's Derived/Test/ToyasCard.lean, 'card_holds'). Laid BY PROGRAM, IN A SANDBOX (cutbox-door.mjs). By AI agents, Wed Nov 11 2026. No macro, syntax, notation, axiom, sorry.
-/
import Derived.Test.YtdoffngamppkkaaDoorRows
import GoSem.ClaimSeven
namespace Go.Proofs.YtdoffngamppkkaaDoor
namespace Rows

/-- THE TIED CARD OF 'deadwaxlaw1.ClockTicksComeBack'. -/
def clockTicksComeBackCard : Claim7 := { stood := { row := clockTicksComeBackRow, standIns := [], harness := (true, "3700ba8f74f557a3e5bcc72f41d941b426a1d34473d4163aa503f27aae85b3bf"), looks := true }, kinds := [], alts := [], laidByText := true, laidKinds := [.data, .data, .data], laidTests := true, laidLooks := .later }
def ClockTicksComeBackCardSaid : Prop := Claim7.holds Tryd.pinned (.plain (OpenSpec.ofChange clockTicksComeBackSpec)) clockTicksComeBackCard

/-- THE TIED CARD OF 'deadwaxlaw1.ClockSpansMatchSpec'. -/
def clockSpansMatchSpecCard : Claim7 := { stood := { row := clockSpansMatchSpecRow, standIns := [], harness := (true, "3700ba8f74f557a3e5bcc72f41d941b426a1d34473d4163aa503f27aae85b3bf"), looks := true }, kinds := [], alts := [], laidByText := true, laidKinds := [.data, .data, .data], laidTests := true, laidLooks := .later }
def ClockSpansMatchSpecCardSaid : Prop := Claim7.holds Tryd.pinned (.plain (OpenSpec.ofChange clockSpansMatchSpecSpec)) clockSpansMatchSpecCard

/-- THE TIED CARD OF 'deadwaxlaw1.ClockSpansAreSets'. -/
def clockSpansAreSetsCard : Claim7 := { stood := { row := clockSpansAreSetsRow, standIns := [], harness := (true, "3700ba8f74f557a3e5bcc72f41d941b426a1d34473d4163aa503f27aae85b3bf"), looks := true }, kinds := [], alts := [], laidByText := true, laidKinds := [.data, .data, .data], laidTests := true, laidLooks := .later }
def ClockSpansAreSetsCardSaid : Prop := Claim7.holds Tryd.pinned (.plain (OpenSpec.ofChange clockSpansAreSetsSpec)) clockSpansAreSetsCard

/-- THE TIED CARD OF 'deadwaxlaw1.ClockBarsMatchSpec'. -/
def clockBarsMatchSpecCard : Claim7 := { stood := { row := clockBarsMatchSpecRow, standIns := [], harness := (true, "3700ba8f74f557a3e5bcc72f41d941b426a1d34473d4163aa503f27aae85b3bf"), looks := true }, kinds := [], alts := [], laidByText := true, laidKinds := [.data, .data, .data, .data, .sentinel, .sentinel, .pinned], laidTests := true, laidLooks := .later }
def ClockBarsMatchSpecCardSaid : Prop := Claim7.holds Tryd.pinned (.plain (OpenSpec.ofChange clockBarsMatchSpecSpec)) clockBarsMatchSpecCard

/-- THE TIED CARD OF 'deadwaxlaw1.ClockBarsComeBack'. -/
def clockBarsComeBackCard : Claim7 := { stood := { row := clockBarsComeBackRow, standIns := [], harness := (true, "3700ba8f74f557a3e5bcc72f41d941b426a1d34473d4163aa503f27aae85b3bf"), looks := true }, kinds := [], alts := [], laidByText := true, laidKinds := [.data, .data, .data, .data, .sentinel, .sentinel, .pinned], laidTests := true, laidLooks := .later }
def ClockBarsComeBackCardSaid : Prop := Claim7.holds Tryd.pinned (.plain (OpenSpec.ofChange clockBarsComeBackSpec)) clockBarsComeBackCard

/-- THE SECOND FORM's CARD OF 'deadwaxlaw1.ClockTicksComeBack'. -/
def clockTicksComeBackUptoCard : Claim7 := { stood := { row := clockTicksComeBackUptoRow, standIns := [], harness := (true, "3700ba8f74f557a3e5bcc72f41d941b426a1d34473d4163aa503f27aae85b3bf"), looks := true }, kinds := [], alts := [], laidByText := true, laidKinds := [.data, .data, .data], laidTests := true, laidLooks := .later }
def ClockTicksComeBackUptoCardSaid : Prop := Claim7.holds Tryd.pinned (.plain (OpenSpec.upto clockTicksComeBackSpec)) clockTicksComeBackUptoCard

/-- THE SECOND FORM's CARD OF 'deadwaxlaw1.ClockSpansMatchSpec'. -/
def clockSpansMatchSpecUptoCard : Claim7 := { stood := { row := clockSpansMatchSpecUptoRow, standIns := [], harness := (true, "3700ba8f74f557a3e5bcc72f41d941b426a1d34473d4163aa503f27aae85b3bf"), looks := true }, kinds := [], alts := [], laidByText := true, laidKinds := [.data, .data, .data], laidTests := true, laidLooks := .later }
def ClockSpansMatchSpecUptoCardSaid : Prop := Claim7.holds Tryd.pinned (.plain (OpenSpec.upto clockSpansMatchSpecSpec)) clockSpansMatchSpecUptoCard

/-- THE SECOND FORM's CARD OF 'deadwaxlaw1.ClockSpansAreSets'. -/
def clockSpansAreSetsUptoCard : Claim7 := { stood := { row := clockSpansAreSetsUptoRow, standIns := [], harness := (true, "3700ba8f74f557a3e5bcc72f41d941b426a1d34473d4163aa503f27aae85b3bf"), looks := true }, kinds := [], alts := [], laidByText := true, laidKinds := [.data, .data, .data], laidTests := true, laidLooks := .later }
def ClockSpansAreSetsUptoCardSaid : Prop := Claim7.holds Tryd.pinned (.plain (OpenSpec.upto clockSpansAreSetsSpec)) clockSpansAreSetsUptoCard

/-- THE SECOND FORM's CARD OF 'deadwaxlaw1.ClockBarsMatchSpec'. -/
def clockBarsMatchSpecUptoCard : Claim7 := { stood := { row := clockBarsMatchSpecUptoRow, standIns := [], harness := (true, "3700ba8f74f557a3e5bcc72f41d941b426a1d34473d4163aa503f27aae85b3bf"), looks := true }, kinds := [], alts := [], laidByText := true, laidKinds := [.data, .data, .data, .data, .sentinel, .sentinel, .pinned], laidTests := true, laidLooks := .later }
def ClockBarsMatchSpecUptoCardSaid : Prop := Claim7.holds Tryd.pinned (.plain (OpenSpec.upto clockBarsMatchSpecSpec)) clockBarsMatchSpecUptoCard

/-- THE SECOND FORM's CARD OF 'deadwaxlaw1.ClockBarsComeBack'. -/
def clockBarsComeBackUptoCard : Claim7 := { stood := { row := clockBarsComeBackUptoRow, standIns := [], harness := (true, "3700ba8f74f557a3e5bcc72f41d941b426a1d34473d4163aa503f27aae85b3bf"), looks := true }, kinds := [], alts := [], laidByText := true, laidKinds := [.data, .data, .data, .data, .sentinel, .sentinel, .pinned], laidTests := true, laidLooks := .later }
def ClockBarsComeBackUptoCardSaid : Prop := Claim7.holds Tryd.pinned (.plain (OpenSpec.upto clockBarsComeBackSpec)) clockBarsComeBackUptoCard
end Rows
end Go.Proofs.YtdoffngamppkkaaDoor
