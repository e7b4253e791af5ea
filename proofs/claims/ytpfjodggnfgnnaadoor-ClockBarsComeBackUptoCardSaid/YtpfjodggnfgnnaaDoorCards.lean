/-
  DERIVED. GIVEN WITH THE SEED: THE CARDS: each row of YtpfjodggnfgnnaaDoorRows.lean that lists a variable, with what it lists TIED to the program's text (the seventh form; the later family's looks); each row that meets fmt, with fmt's text TOLD by the authors' own Lean function (tested against real Go, not proved from fmt's source: count such statements apart). THE CARD IS WHAT COUNTS. Prove the row's statement (the work); the ties are given (YtpfjodggnfgnnaaDoorTie.lean); close each card by the builder's one call (the guide's Derived/Test/ToyasCard.lean, 'card_holds'). Laid BY PROGRAM, IN A SANDBOX (cutbox-door.mjs). By AI agents, Wed Nov 11 2026. No macro, syntax, notation, axiom, sorry.
-/
import Derived.Test.YtpfjodggnfgnnaaDoorRows
import GoSem.ClaimSeven
namespace Go.Proofs.YtpfjodggnfgnnaaDoor
namespace Rows

/-- THE TIED CARD OF 'deadwaxlaw1.ClockSpansMatchSpec'. -/
def clockSpansMatchSpecCard : Claim7 := { stood := { row := clockSpansMatchSpecRow, standIns := [], harness := (true, "653924377a755ecf56e07fa7bf5436eb545773ddbf7b404d413f168bedef179f"), looks := true }, kinds := [], alts := [], laidByText := true, laidKinds := [.data, .data, .data], laidTests := true, laidLooks := .later }
def ClockSpansMatchSpecCardSaid : Prop := Claim7.holds Tryd.pinned (.plain (OpenSpec.ofChange clockSpansMatchSpecSpec)) clockSpansMatchSpecCard

/-- THE TIED CARD OF 'deadwaxlaw1.ClockSpansAreSets'. -/
def clockSpansAreSetsCard : Claim7 := { stood := { row := clockSpansAreSetsRow, standIns := [], harness := (true, "653924377a755ecf56e07fa7bf5436eb545773ddbf7b404d413f168bedef179f"), looks := true }, kinds := [], alts := [], laidByText := true, laidKinds := [.data, .data, .data], laidTests := true, laidLooks := .later }
def ClockSpansAreSetsCardSaid : Prop := Claim7.holds Tryd.pinned (.plain (OpenSpec.ofChange clockSpansAreSetsSpec)) clockSpansAreSetsCard

/-- THE TIED CARD OF 'deadwaxlaw1.ClockBarsMatchSpec'. -/
def clockBarsMatchSpecCard : Claim7 := { stood := { row := clockBarsMatchSpecRow, standIns := [], harness := (true, "653924377a755ecf56e07fa7bf5436eb545773ddbf7b404d413f168bedef179f"), looks := true }, kinds := [], alts := [], laidByText := true, laidKinds := [.data, .data, .data, .data, .sentinel, .sentinel, .pinned], laidTests := true, laidLooks := .later }
def ClockBarsMatchSpecCardSaid : Prop := Claim7.holds Tryd.pinned (.plain (OpenSpec.ofChange clockBarsMatchSpecSpec)) clockBarsMatchSpecCard

/-- THE TIED CARD OF 'deadwaxlaw1.ClockBarsComeBack'. -/
def clockBarsComeBackCard : Claim7 := { stood := { row := clockBarsComeBackRow, standIns := [], harness := (true, "653924377a755ecf56e07fa7bf5436eb545773ddbf7b404d413f168bedef179f"), looks := true }, kinds := [], alts := [], laidByText := true, laidKinds := [.data, .data, .data, .data, .sentinel, .sentinel, .pinned], laidTests := true, laidLooks := .later }
def ClockBarsComeBackCardSaid : Prop := Claim7.holds Tryd.pinned (.plain (OpenSpec.ofChange clockBarsComeBackSpec)) clockBarsComeBackCard

/-- THE TIED CARD OF 'deadwaxlaw1.ClockFitIsBest'. -/
def clockFitIsBestCard : Claim7 := { stood := { row := clockFitIsBestRow, standIns := [], harness := (true, "653924377a755ecf56e07fa7bf5436eb545773ddbf7b404d413f168bedef179f"), looks := true }, kinds := [], alts := [], laidByText := true, laidKinds := [.data, .data, .data, .sentinel, .sentinel], laidTests := true, laidLooks := .later }
def ClockFitIsBestCardSaid : Prop := Claim7.holds Tryd.pinned (.plain (OpenSpec.ofChange clockFitIsBestSpec)) clockFitIsBestCard

/-- THE TIED CARD OF 'deadwaxlaw1.ClockOutwardCovers'. -/
def clockOutwardCoversCard : Claim7 := { stood := { row := clockOutwardCoversRow, standIns := [], harness := (true, "653924377a755ecf56e07fa7bf5436eb545773ddbf7b404d413f168bedef179f"), looks := true }, kinds := [], alts := [], laidByText := true, laidKinds := [.data, .data, .data], laidTests := true, laidLooks := .later }
def ClockOutwardCoversCardSaid : Prop := Claim7.holds Tryd.pinned (.plain (OpenSpec.ofChange clockOutwardCoversSpec)) clockOutwardCoversCard

/-- THE SECOND FORM's CARD OF 'deadwaxlaw1.ClockSpansMatchSpec'. -/
def clockSpansMatchSpecUptoCard : Claim7 := { stood := { row := clockSpansMatchSpecUptoRow, standIns := [], harness := (true, "653924377a755ecf56e07fa7bf5436eb545773ddbf7b404d413f168bedef179f"), looks := true }, kinds := [], alts := [], laidByText := true, laidKinds := [.data, .data, .data], laidTests := true, laidLooks := .later }
def ClockSpansMatchSpecUptoCardSaid : Prop := Claim7.holds Tryd.pinned (.plain (OpenSpec.upto clockSpansMatchSpecSpec)) clockSpansMatchSpecUptoCard

/-- THE SECOND FORM's CARD OF 'deadwaxlaw1.ClockSpansAreSets'. -/
def clockSpansAreSetsUptoCard : Claim7 := { stood := { row := clockSpansAreSetsUptoRow, standIns := [], harness := (true, "653924377a755ecf56e07fa7bf5436eb545773ddbf7b404d413f168bedef179f"), looks := true }, kinds := [], alts := [], laidByText := true, laidKinds := [.data, .data, .data], laidTests := true, laidLooks := .later }
def ClockSpansAreSetsUptoCardSaid : Prop := Claim7.holds Tryd.pinned (.plain (OpenSpec.upto clockSpansAreSetsSpec)) clockSpansAreSetsUptoCard

/-- THE SECOND FORM's CARD OF 'deadwaxlaw1.ClockBarsMatchSpec'. -/
def clockBarsMatchSpecUptoCard : Claim7 := { stood := { row := clockBarsMatchSpecUptoRow, standIns := [], harness := (true, "653924377a755ecf56e07fa7bf5436eb545773ddbf7b404d413f168bedef179f"), looks := true }, kinds := [], alts := [], laidByText := true, laidKinds := [.data, .data, .data, .data, .sentinel, .sentinel, .pinned], laidTests := true, laidLooks := .later }
def ClockBarsMatchSpecUptoCardSaid : Prop := Claim7.holds Tryd.pinned (.plain (OpenSpec.upto clockBarsMatchSpecSpec)) clockBarsMatchSpecUptoCard

/-- THE SECOND FORM's CARD OF 'deadwaxlaw1.ClockBarsComeBack'. -/
def clockBarsComeBackUptoCard : Claim7 := { stood := { row := clockBarsComeBackUptoRow, standIns := [], harness := (true, "653924377a755ecf56e07fa7bf5436eb545773ddbf7b404d413f168bedef179f"), looks := true }, kinds := [], alts := [], laidByText := true, laidKinds := [.data, .data, .data, .data, .sentinel, .sentinel, .pinned], laidTests := true, laidLooks := .later }
def ClockBarsComeBackUptoCardSaid : Prop := Claim7.holds Tryd.pinned (.plain (OpenSpec.upto clockBarsComeBackSpec)) clockBarsComeBackUptoCard

/-- THE SECOND FORM's CARD OF 'deadwaxlaw1.ClockFitIsBest'. -/
def clockFitIsBestUptoCard : Claim7 := { stood := { row := clockFitIsBestUptoRow, standIns := [], harness := (true, "653924377a755ecf56e07fa7bf5436eb545773ddbf7b404d413f168bedef179f"), looks := true }, kinds := [], alts := [], laidByText := true, laidKinds := [.data, .data, .data, .sentinel, .sentinel], laidTests := true, laidLooks := .later }
def ClockFitIsBestUptoCardSaid : Prop := Claim7.holds Tryd.pinned (.plain (OpenSpec.upto clockFitIsBestSpec)) clockFitIsBestUptoCard

/-- THE SECOND FORM's CARD OF 'deadwaxlaw1.ClockOutwardCovers'. -/
def clockOutwardCoversUptoCard : Claim7 := { stood := { row := clockOutwardCoversUptoRow, standIns := [], harness := (true, "653924377a755ecf56e07fa7bf5436eb545773ddbf7b404d413f168bedef179f"), looks := true }, kinds := [], alts := [], laidByText := true, laidKinds := [.data, .data, .data], laidTests := true, laidLooks := .later }
def ClockOutwardCoversUptoCardSaid : Prop := Claim7.holds Tryd.pinned (.plain (OpenSpec.upto clockOutwardCoversSpec)) clockOutwardCoversUptoCard
end Rows
end Go.Proofs.YtpfjodggnfgnnaaDoor
