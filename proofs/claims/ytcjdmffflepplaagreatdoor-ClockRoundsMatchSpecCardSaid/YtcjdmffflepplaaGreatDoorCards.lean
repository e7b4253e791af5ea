/-
  DERIVED. GIVEN WITH THE SEED: THE CARDS: each row of YtcjdmffflepplaaGreatDoorRows.lean that lists a variable, with what it lists TIED to the program's text (the seventh form; the later family's looks); each row that meets fmt, with fmt's text TOLD by the authors' own Lean function (tested against real Go, not proved from fmt's source: count such statements apart). THE CARD IS WHAT COUNTS. Prove the row's statement (the work); the ties are given (YtcjdmffflepplaaGreatDoorTie.lean); close each card by the builder's one call (the guide's Derived/Test/ToyasCard.lean, 'card_holds'). Laid BY PROGRAM, IN A SANDBOX (cutbox-door.mjs). By AI agents, Wed Nov 11 2026. No macro, syntax, notation, axiom, sorry.
-/
import Derived.Test.YtcjdmffflepplaaGreatDoorRows
import GoSem.ClaimSeven
namespace Go.Proofs.YtcjdmffflepplaaGreatDoor
namespace Rows

/-- THE TIED CARD OF 'deadwaxlaw1.ClockConvertMatchesSpec'. -/
def clockConvertMatchesSpecCard : Claim7 := { stood := { row := clockConvertMatchesSpecRow, standIns := [], harness := (true, "d2962cbdf2fe11ef10ae8a52985246d4b863127b335d9c89432a81ed6e1a72bd"), looks := true }, kinds := [], alts := [], laidByText := true, laidKinds := [.data, .data, .data, .sentinel, .sentinel], laidTests := true, laidLooks := .later }
def ClockConvertMatchesSpecCardSaid : Prop := Claim7.holds Tryz.pinned (.plain (OpenSpec.ofChange clockConvertMatchesSpecSpec)) clockConvertMatchesSpecCard

/-- THE TIED CARD OF 'deadwaxlaw1.ClockRoundsMatchSpec'. -/
def clockRoundsMatchSpecCard : Claim7 := { stood := { row := clockRoundsMatchSpecRow, standIns := [], harness := (true, "d2962cbdf2fe11ef10ae8a52985246d4b863127b335d9c89432a81ed6e1a72bd"), looks := true }, kinds := [], alts := [], laidByText := true, laidKinds := [.data, .data, .data, .sentinel, .sentinel], laidTests := true, laidLooks := .later }
def ClockRoundsMatchSpecCardSaid : Prop := Claim7.holds Tryz.pinned (.plain (OpenSpec.ofChange clockRoundsMatchSpecSpec)) clockRoundsMatchSpecCard

/-- THE TIED CARD OF 'deadwaxlaw1.ClockRatiosMatchSpec'. -/
def clockRatiosMatchSpecCard : Claim7 := { stood := { row := clockRatiosMatchSpecRow, standIns := [], harness := (true, "d2962cbdf2fe11ef10ae8a52985246d4b863127b335d9c89432a81ed6e1a72bd"), looks := true }, kinds := [], alts := [], laidByText := true, laidKinds := [.data, .data, .data, .sentinel, .sentinel], laidTests := true, laidLooks := .later }
def ClockRatiosMatchSpecCardSaid : Prop := Claim7.holds Tryz.pinned (.plain (OpenSpec.ofChange clockRatiosMatchSpecSpec)) clockRatiosMatchSpecCard

/-- THE SECOND FORM's CARD OF 'deadwaxlaw1.ClockConvertMatchesSpec'. -/
def clockConvertMatchesSpecUptoCard : Claim7 := { stood := { row := clockConvertMatchesSpecUptoRow, standIns := [], harness := (true, "d2962cbdf2fe11ef10ae8a52985246d4b863127b335d9c89432a81ed6e1a72bd"), looks := true }, kinds := [], alts := [], laidByText := true, laidKinds := [.data, .data, .data, .sentinel, .sentinel], laidTests := true, laidLooks := .later }
def ClockConvertMatchesSpecUptoCardSaid : Prop := Claim7.holds Tryz.pinned (.plain (OpenSpec.upto clockConvertMatchesSpecSpec)) clockConvertMatchesSpecUptoCard

/-- THE SECOND FORM's CARD OF 'deadwaxlaw1.ClockRoundsMatchSpec'. -/
def clockRoundsMatchSpecUptoCard : Claim7 := { stood := { row := clockRoundsMatchSpecUptoRow, standIns := [], harness := (true, "d2962cbdf2fe11ef10ae8a52985246d4b863127b335d9c89432a81ed6e1a72bd"), looks := true }, kinds := [], alts := [], laidByText := true, laidKinds := [.data, .data, .data, .sentinel, .sentinel], laidTests := true, laidLooks := .later }
def ClockRoundsMatchSpecUptoCardSaid : Prop := Claim7.holds Tryz.pinned (.plain (OpenSpec.upto clockRoundsMatchSpecSpec)) clockRoundsMatchSpecUptoCard

/-- THE SECOND FORM's CARD OF 'deadwaxlaw1.ClockRatiosMatchSpec'. -/
def clockRatiosMatchSpecUptoCard : Claim7 := { stood := { row := clockRatiosMatchSpecUptoRow, standIns := [], harness := (true, "d2962cbdf2fe11ef10ae8a52985246d4b863127b335d9c89432a81ed6e1a72bd"), looks := true }, kinds := [], alts := [], laidByText := true, laidKinds := [.data, .data, .data, .sentinel, .sentinel], laidTests := true, laidLooks := .later }
def ClockRatiosMatchSpecUptoCardSaid : Prop := Claim7.holds Tryz.pinned (.plain (OpenSpec.upto clockRatiosMatchSpecSpec)) clockRatiosMatchSpecUptoCard
end Rows
end Go.Proofs.YtcjdmffflepplaaGreatDoor
