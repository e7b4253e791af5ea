/-
  DERIVED. GIVEN WITH THE SEED: THE CARDS: each row of YthgjgiccoobcgaaDoorRows.lean that lists a variable, with what it lists TIED to the program's text (the seventh form; the later family's looks); each row that meets fmt, with fmt's text TOLD by the authors' own Lean function (tested against real Go, not proved from fmt's source: count such statements apart). THE CARD IS WHAT COUNTS. Prove the row's statement (the work); the ties are given (YthgjgiccoobcgaaDoorTie.lean); close each card by the builder's one call (the guide's Derived/Test/ToyasCard.lean, 'card_holds'). Laid BY PROGRAM, IN A SANDBOX (cutbox-door.mjs). By AI agents, Wed Nov 11 2026. No macro, syntax, notation, axiom, sorry.
-/
import Derived.Test.YthgjgiccoobcgaaDoorRows
import GoSem.ClaimSeven
namespace Go.Proofs.YthgjgiccoobcgaaDoor
namespace Rows

/-- THE TIED CARD OF 'deadwaxlaw1.ClockBarsMatchSpec'. -/
def clockBarsMatchSpecCard : Claim7 := { stood := { row := clockBarsMatchSpecRow, standIns := [], harness := (true, "9ec8b62e8da2ccb9ac50cac95a4a6801c5c6debb0d5a1ec1650480b9c35aec0f"), looks := true }, kinds := [], alts := [], laidByText := true, laidKinds := [.data, .data, .data, .data, .sentinel, .sentinel, .pinned], laidTests := true, laidLooks := .later }
def ClockBarsMatchSpecCardSaid : Prop := Claim7.holds Tryd.pinned (.plain (OpenSpec.ofChange clockBarsMatchSpecSpec)) clockBarsMatchSpecCard

/-- THE TIED CARD OF 'deadwaxlaw1.ClockFitIsBest'. -/
def clockFitIsBestCard : Claim7 := { stood := { row := clockFitIsBestRow, standIns := [], harness := (true, "9ec8b62e8da2ccb9ac50cac95a4a6801c5c6debb0d5a1ec1650480b9c35aec0f"), looks := true }, kinds := [], alts := [], laidByText := true, laidKinds := [.data, .data, .data, .sentinel, .sentinel], laidTests := true, laidLooks := .later }
def ClockFitIsBestCardSaid : Prop := Claim7.holds Tryd.pinned (.plain (OpenSpec.ofChange clockFitIsBestSpec)) clockFitIsBestCard

/-- THE TIED CARD OF 'deadwaxlaw1.ClockTextsComeBack'. -/
def clockTextsComeBackCard : Claim7 := { stood := { row := clockTextsComeBackRow, standIns := [], harness := (true, "9ec8b62e8da2ccb9ac50cac95a4a6801c5c6debb0d5a1ec1650480b9c35aec0f"), looks := true }, kinds := [], alts := [], laidByText := true, laidKinds := [.data, .data, .data, .data, .pinned], laidTests := true, laidLooks := .later }
def ClockTextsComeBackCardSaid : Prop := Claim7.holds Tryd.pinned (.plain (OpenSpec.ofChange clockTextsComeBackSpec)) clockTextsComeBackCard

/-- THE SECOND FORM's CARD OF 'deadwaxlaw1.ClockBarsMatchSpec'. -/
def clockBarsMatchSpecUptoCard : Claim7 := { stood := { row := clockBarsMatchSpecUptoRow, standIns := [], harness := (true, "9ec8b62e8da2ccb9ac50cac95a4a6801c5c6debb0d5a1ec1650480b9c35aec0f"), looks := true }, kinds := [], alts := [], laidByText := true, laidKinds := [.data, .data, .data, .data, .sentinel, .sentinel, .pinned], laidTests := true, laidLooks := .later }
def ClockBarsMatchSpecUptoCardSaid : Prop := Claim7.holds Tryd.pinned (.plain (OpenSpec.upto clockBarsMatchSpecSpec)) clockBarsMatchSpecUptoCard

/-- THE SECOND FORM's CARD OF 'deadwaxlaw1.ClockFitIsBest'. -/
def clockFitIsBestUptoCard : Claim7 := { stood := { row := clockFitIsBestUptoRow, standIns := [], harness := (true, "9ec8b62e8da2ccb9ac50cac95a4a6801c5c6debb0d5a1ec1650480b9c35aec0f"), looks := true }, kinds := [], alts := [], laidByText := true, laidKinds := [.data, .data, .data, .sentinel, .sentinel], laidTests := true, laidLooks := .later }
def ClockFitIsBestUptoCardSaid : Prop := Claim7.holds Tryd.pinned (.plain (OpenSpec.upto clockFitIsBestSpec)) clockFitIsBestUptoCard

/-- THE SECOND FORM's CARD OF 'deadwaxlaw1.ClockTextsComeBack'. -/
def clockTextsComeBackUptoCard : Claim7 := { stood := { row := clockTextsComeBackUptoRow, standIns := [], harness := (true, "9ec8b62e8da2ccb9ac50cac95a4a6801c5c6debb0d5a1ec1650480b9c35aec0f"), looks := true }, kinds := [], alts := [], laidByText := true, laidKinds := [.data, .data, .data, .data, .pinned], laidTests := true, laidLooks := .later }
def ClockTextsComeBackUptoCardSaid : Prop := Claim7.holds Tryd.pinned (.plain (OpenSpec.upto clockTextsComeBackSpec)) clockTextsComeBackUptoCard
end Rows
end Go.Proofs.YthgjgiccoobcgaaDoor
