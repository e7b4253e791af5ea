/-
  DERIVED. GIVEN WITH THE SEED: THE CARDS: each row of YthjmhdnamhifjaaGreatDoorRows.lean that lists a variable, with what it lists TIED to the program's text (the seventh form; the later family's looks); each row that meets fmt, with fmt's text TOLD by the authors' own Lean function (tested against real Go, not proved from fmt's source: count such statements apart). THE CARD IS WHAT COUNTS. Prove the row's statement (the work); the ties are given (YthjmhdnamhifjaaGreatDoorTie.lean); close each card by the builder's one call (the guide's Derived/Test/ToyasCard.lean, 'card_holds'). Laid BY PROGRAM, IN A SANDBOX (cutbox-door.mjs). By AI agents, Wed Nov 11 2026. No macro, syntax, notation, axiom, sorry.
-/
import Derived.Test.YthjmhdnamhifjaaGreatDoorRows
import GoSem.ClaimSeven
namespace Go.Proofs.YthjmhdnamhifjaaGreatDoor
namespace Rows

/-- THE TIED CARD OF 'deadwaxlaw1.ClockFitMatchesSpec'. -/
def clockFitMatchesSpecCard : Claim7 := { stood := { row := clockFitMatchesSpecRow, standIns := [], harness := (true, "043569973840648b04a542a959a5373750f6f82b379a55938914e99a2dc01532"), looks := true }, kinds := [], alts := [], laidByText := true, laidKinds := [.data, .data, .data, .sentinel, .sentinel], laidTests := true, laidLooks := .later }
def ClockFitMatchesSpecCardSaid : Prop := Claim7.holds Tryz.pinned (.plain (OpenSpec.ofChange clockFitMatchesSpecSpec)) clockFitMatchesSpecCard

/-- THE TIED CARD OF 'deadwaxlaw1.ClockMovesMatchSpec'. -/
def clockMovesMatchSpecCard : Claim7 := { stood := { row := clockMovesMatchSpecRow, standIns := [], harness := (true, "043569973840648b04a542a959a5373750f6f82b379a55938914e99a2dc01532"), looks := true }, kinds := [], alts := [], laidByText := true, laidKinds := [.data, .data, .data, .sentinel, .sentinel], laidTests := true, laidLooks := .later }
def ClockMovesMatchSpecCardSaid : Prop := Claim7.holds Tryz.pinned (.plain (OpenSpec.ofChange clockMovesMatchSpecSpec)) clockMovesMatchSpecCard

/-- THE TIED CARD OF 'deadwaxlaw1.ClockPairsMatchSpec'. -/
def clockPairsMatchSpecCard : Claim7 := { stood := { row := clockPairsMatchSpecRow, standIns := [], harness := (true, "043569973840648b04a542a959a5373750f6f82b379a55938914e99a2dc01532"), looks := true }, kinds := [], alts := [], laidByText := true, laidKinds := [.data, .data, .data, .sentinel, .sentinel], laidTests := true, laidLooks := .later }
def ClockPairsMatchSpecCardSaid : Prop := Claim7.holds Tryz.pinned (.plain (OpenSpec.ofChange clockPairsMatchSpecSpec)) clockPairsMatchSpecCard

/-- THE SECOND FORM's CARD OF 'deadwaxlaw1.ClockFitMatchesSpec'. -/
def clockFitMatchesSpecUptoCard : Claim7 := { stood := { row := clockFitMatchesSpecUptoRow, standIns := [], harness := (true, "043569973840648b04a542a959a5373750f6f82b379a55938914e99a2dc01532"), looks := true }, kinds := [], alts := [], laidByText := true, laidKinds := [.data, .data, .data, .sentinel, .sentinel], laidTests := true, laidLooks := .later }
def ClockFitMatchesSpecUptoCardSaid : Prop := Claim7.holds Tryz.pinned (.plain (OpenSpec.upto clockFitMatchesSpecSpec)) clockFitMatchesSpecUptoCard

/-- THE SECOND FORM's CARD OF 'deadwaxlaw1.ClockMovesMatchSpec'. -/
def clockMovesMatchSpecUptoCard : Claim7 := { stood := { row := clockMovesMatchSpecUptoRow, standIns := [], harness := (true, "043569973840648b04a542a959a5373750f6f82b379a55938914e99a2dc01532"), looks := true }, kinds := [], alts := [], laidByText := true, laidKinds := [.data, .data, .data, .sentinel, .sentinel], laidTests := true, laidLooks := .later }
def ClockMovesMatchSpecUptoCardSaid : Prop := Claim7.holds Tryz.pinned (.plain (OpenSpec.upto clockMovesMatchSpecSpec)) clockMovesMatchSpecUptoCard

/-- THE SECOND FORM's CARD OF 'deadwaxlaw1.ClockPairsMatchSpec'. -/
def clockPairsMatchSpecUptoCard : Claim7 := { stood := { row := clockPairsMatchSpecUptoRow, standIns := [], harness := (true, "043569973840648b04a542a959a5373750f6f82b379a55938914e99a2dc01532"), looks := true }, kinds := [], alts := [], laidByText := true, laidKinds := [.data, .data, .data, .sentinel, .sentinel], laidTests := true, laidLooks := .later }
def ClockPairsMatchSpecUptoCardSaid : Prop := Claim7.holds Tryz.pinned (.plain (OpenSpec.upto clockPairsMatchSpecSpec)) clockPairsMatchSpecUptoCard
end Rows
end Go.Proofs.YthjmhdnamhifjaaGreatDoor
