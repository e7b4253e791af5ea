/-
  DERIVED. GIVEN WITH THE SEED: THE CARDS: each row of YtocbogdjlapogaaGreatDoorRows.lean that lists a variable, with what it lists TIED to the program's text (the seventh form; the later family's looks); each row that meets fmt, with fmt's text TOLD by the authors' own Lean function (tested against real Go, not proved from fmt's source: count such statements apart). THE CARD IS WHAT COUNTS. Prove the row's statement (the work); the ties are given (YtocbogdjlapogaaGreatDoorTie.lean); close each card by the builder's one call (the guide's Derived/Test/ToyasCard.lean, 'card_holds'). Laid BY PROGRAM, IN A SANDBOX (cutbox-door.mjs). By AI agents, Wed Nov 11 2026. No macro, syntax, notation, axiom, sorry.
-/
import Derived.Test.YtocbogdjlapogaaGreatDoorRows
import GoSem.ClaimSeven
namespace Go.Proofs.YtocbogdjlapogaaGreatDoor
namespace Rows

/-- THE TIED CARD OF 'deadwaxlaw1.ClockFitMatchesSpec'. -/
def clockFitMatchesSpecCard : Claim7 := { stood := { row := clockFitMatchesSpecRow, standIns := [], harness := (true, "192738c8ac8ef24831041a14b6706c770dc581c780df9cb4297f20ede55db314"), looks := true }, kinds := [], alts := [], laidByText := true, laidKinds := [.data, .data, .data, .sentinel, .sentinel], laidTests := true, laidLooks := .later }
def ClockFitMatchesSpecCardSaid : Prop := Claim7.holds Tryz.pinned (.plain (OpenSpec.ofChange clockFitMatchesSpecSpec)) clockFitMatchesSpecCard

/-- THE SECOND FORM's CARD OF 'deadwaxlaw1.ClockFitMatchesSpec'. -/
def clockFitMatchesSpecUptoCard : Claim7 := { stood := { row := clockFitMatchesSpecUptoRow, standIns := [], harness := (true, "192738c8ac8ef24831041a14b6706c770dc581c780df9cb4297f20ede55db314"), looks := true }, kinds := [], alts := [], laidByText := true, laidKinds := [.data, .data, .data, .sentinel, .sentinel], laidTests := true, laidLooks := .later }
def ClockFitMatchesSpecUptoCardSaid : Prop := Claim7.holds Tryz.pinned (.plain (OpenSpec.upto clockFitMatchesSpecSpec)) clockFitMatchesSpecUptoCard
end Rows
end Go.Proofs.YtocbogdjlapogaaGreatDoor
