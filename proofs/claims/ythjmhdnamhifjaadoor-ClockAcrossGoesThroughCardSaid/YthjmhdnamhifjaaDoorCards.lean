/-
  DERIVED. GIVEN WITH THE SEED: THE CARDS: each row of YthjmhdnamhifjaaDoorRows.lean that lists a variable, with what it lists TIED to the program's text (the seventh form; the later family's looks); each row that meets fmt, with fmt's text TOLD by the authors' own Lean function (tested against real Go, not proved from fmt's source: count such statements apart). THE CARD IS WHAT COUNTS. Prove the row's statement (the work); the ties are given (YthjmhdnamhifjaaDoorTie.lean); close each card by the builder's one call (the guide's Derived/Test/ToyasCard.lean, 'card_holds'). Laid BY PROGRAM, IN A SANDBOX (cutbox-door.mjs). By AI agents, Wed Nov 11 2026. No macro, syntax, notation, axiom, sorry.
-/
import Derived.Test.YthjmhdnamhifjaaDoorRows
import GoSem.ClaimSeven
namespace Go.Proofs.YthjmhdnamhifjaaDoor
namespace Rows

/-- THE TIED CARD OF 'deadwaxlaw1.ClockAcrossGoesThrough'. -/
def clockAcrossGoesThroughCard : Claim7 := { stood := { row := clockAcrossGoesThroughRow, standIns := [], harness := (true, "d0984b96af1636374cf75be1ca2ab5d1911bb0ff06126c62703a62265a7b278c"), looks := true }, kinds := [], alts := [], laidByText := true, laidKinds := [.data, .data, .data], laidTests := true, laidLooks := .later }
def ClockAcrossGoesThroughCardSaid : Prop := Claim7.holds Tryd.pinned (.plain (OpenSpec.ofChange clockAcrossGoesThroughSpec)) clockAcrossGoesThroughCard

/-- THE TIED CARD OF 'deadwaxlaw1.ClockTempoMatchesSpec'. -/
def clockTempoMatchesSpecCard : Claim7 := { stood := { row := clockTempoMatchesSpecRow, standIns := [], harness := (true, "d0984b96af1636374cf75be1ca2ab5d1911bb0ff06126c62703a62265a7b278c"), looks := true }, kinds := [], alts := [], laidByText := true, laidKinds := [.data, .data, .data, .sentinel, .sentinel], laidTests := true, laidLooks := .later }
def ClockTempoMatchesSpecCardSaid : Prop := Claim7.holds Tryd.pinned (.plain (OpenSpec.ofChange clockTempoMatchesSpecSpec)) clockTempoMatchesSpecCard

/-- THE TIED CARD OF 'deadwaxlaw1.ClockFitIsBest'. -/
def clockFitIsBestCard : Claim7 := { stood := { row := clockFitIsBestRow, standIns := [], harness := (true, "d0984b96af1636374cf75be1ca2ab5d1911bb0ff06126c62703a62265a7b278c"), looks := true }, kinds := [], alts := [], laidByText := true, laidKinds := [.data, .data, .data, .sentinel, .sentinel], laidTests := true, laidLooks := .later }
def ClockFitIsBestCardSaid : Prop := Claim7.holds Tryd.pinned (.plain (OpenSpec.ofChange clockFitIsBestSpec)) clockFitIsBestCard

/-- THE SECOND FORM's CARD OF 'deadwaxlaw1.ClockAcrossGoesThrough'. -/
def clockAcrossGoesThroughUptoCard : Claim7 := { stood := { row := clockAcrossGoesThroughUptoRow, standIns := [], harness := (true, "d0984b96af1636374cf75be1ca2ab5d1911bb0ff06126c62703a62265a7b278c"), looks := true }, kinds := [], alts := [], laidByText := true, laidKinds := [.data, .data, .data], laidTests := true, laidLooks := .later }
def ClockAcrossGoesThroughUptoCardSaid : Prop := Claim7.holds Tryd.pinned (.plain (OpenSpec.upto clockAcrossGoesThroughSpec)) clockAcrossGoesThroughUptoCard

/-- THE SECOND FORM's CARD OF 'deadwaxlaw1.ClockTempoMatchesSpec'. -/
def clockTempoMatchesSpecUptoCard : Claim7 := { stood := { row := clockTempoMatchesSpecUptoRow, standIns := [], harness := (true, "d0984b96af1636374cf75be1ca2ab5d1911bb0ff06126c62703a62265a7b278c"), looks := true }, kinds := [], alts := [], laidByText := true, laidKinds := [.data, .data, .data, .sentinel, .sentinel], laidTests := true, laidLooks := .later }
def ClockTempoMatchesSpecUptoCardSaid : Prop := Claim7.holds Tryd.pinned (.plain (OpenSpec.upto clockTempoMatchesSpecSpec)) clockTempoMatchesSpecUptoCard

/-- THE SECOND FORM's CARD OF 'deadwaxlaw1.ClockFitIsBest'. -/
def clockFitIsBestUptoCard : Claim7 := { stood := { row := clockFitIsBestUptoRow, standIns := [], harness := (true, "d0984b96af1636374cf75be1ca2ab5d1911bb0ff06126c62703a62265a7b278c"), looks := true }, kinds := [], alts := [], laidByText := true, laidKinds := [.data, .data, .data, .sentinel, .sentinel], laidTests := true, laidLooks := .later }
def ClockFitIsBestUptoCardSaid : Prop := Claim7.holds Tryd.pinned (.plain (OpenSpec.upto clockFitIsBestSpec)) clockFitIsBestUptoCard
end Rows
end Go.Proofs.YthjmhdnamhifjaaDoor
