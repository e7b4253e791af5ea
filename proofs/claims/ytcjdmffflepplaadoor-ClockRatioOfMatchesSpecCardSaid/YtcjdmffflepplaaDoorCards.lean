/-
  DERIVED. GIVEN WITH THE SEED: THE CARDS: each row of YtcjdmffflepplaaDoorRows.lean that lists a variable, with what it lists TIED to the program's text (the seventh form; the later family's looks); each row that meets fmt, with fmt's text TOLD by the authors' own Lean function (tested against real Go, not proved from fmt's source: count such statements apart). THE CARD IS WHAT COUNTS. Prove the row's statement (the work); the ties are given (YtcjdmffflepplaaDoorTie.lean); close each card by the builder's one call (the guide's Derived/Test/ToyasCard.lean, 'card_holds'). Laid BY PROGRAM, IN A SANDBOX (cutbox-door.mjs). By AI agents, Wed Nov 11 2026. No macro, syntax, notation, axiom, sorry.
-/
import Derived.Test.YtcjdmffflepplaaDoorRows
import GoSem.ClaimSeven
namespace Go.Proofs.YtcjdmffflepplaaDoor
namespace Rows

/-- THE TIED CARD OF 'deadwaxlaw1.ClockConvertComesBack'. -/
def clockConvertComesBackCard : Claim7 := { stood := { row := clockConvertComesBackRow, standIns := [], harness := (true, "f6f2de736da74c8226dbc140713fb1eea982a2075eaa1778d04f247c1623579a"), looks := true }, kinds := [], alts := [], laidByText := true, laidKinds := [.data, .data, .data], laidTests := true, laidLooks := .later }
def ClockConvertComesBackCardSaid : Prop := Claim7.holds Tryd.pinned (.plain (OpenSpec.ofChange clockConvertComesBackSpec)) clockConvertComesBackCard

/-- THE TIED CARD OF 'deadwaxlaw1.ClockSumsAreExact'. -/
def clockSumsAreExactCard : Claim7 := { stood := { row := clockSumsAreExactRow, standIns := [], harness := (true, "f6f2de736da74c8226dbc140713fb1eea982a2075eaa1778d04f247c1623579a"), looks := true }, kinds := [], alts := [], laidByText := true, laidKinds := [.data, .data, .data], laidTests := true, laidLooks := .later }
def ClockSumsAreExactCardSaid : Prop := Claim7.holds Tryd.pinned (.plain (OpenSpec.ofChange clockSumsAreExactSpec)) clockSumsAreExactCard

/-- THE TIED CARD OF 'deadwaxlaw1.ClockRoundsAreNear'. -/
def clockRoundsAreNearCard : Claim7 := { stood := { row := clockRoundsAreNearRow, standIns := [], harness := (true, "f6f2de736da74c8226dbc140713fb1eea982a2075eaa1778d04f247c1623579a"), looks := true }, kinds := [], alts := [], laidByText := true, laidKinds := [.data, .data, .data], laidTests := true, laidLooks := .later }
def ClockRoundsAreNearCardSaid : Prop := Claim7.holds Tryd.pinned (.plain (OpenSpec.ofChange clockRoundsAreNearSpec)) clockRoundsAreNearCard

/-- THE TIED CARD OF 'deadwaxlaw1.ClockRatioOfMatchesSpec'. -/
def clockRatioOfMatchesSpecCard : Claim7 := { stood := { row := clockRatioOfMatchesSpecRow, standIns := [], harness := (true, "f6f2de736da74c8226dbc140713fb1eea982a2075eaa1778d04f247c1623579a"), looks := true }, kinds := [], alts := [], laidByText := true, laidKinds := [.data, .data, .data, .sentinel, .sentinel], laidTests := true, laidLooks := .later }
def ClockRatioOfMatchesSpecCardSaid : Prop := Claim7.holds Tryd.pinned (.plain (OpenSpec.ofChange clockRatioOfMatchesSpecSpec)) clockRatioOfMatchesSpecCard

/-- THE SECOND FORM's CARD OF 'deadwaxlaw1.ClockConvertComesBack'. -/
def clockConvertComesBackUptoCard : Claim7 := { stood := { row := clockConvertComesBackUptoRow, standIns := [], harness := (true, "f6f2de736da74c8226dbc140713fb1eea982a2075eaa1778d04f247c1623579a"), looks := true }, kinds := [], alts := [], laidByText := true, laidKinds := [.data, .data, .data], laidTests := true, laidLooks := .later }
def ClockConvertComesBackUptoCardSaid : Prop := Claim7.holds Tryd.pinned (.plain (OpenSpec.upto clockConvertComesBackSpec)) clockConvertComesBackUptoCard

/-- THE SECOND FORM's CARD OF 'deadwaxlaw1.ClockSumsAreExact'. -/
def clockSumsAreExactUptoCard : Claim7 := { stood := { row := clockSumsAreExactUptoRow, standIns := [], harness := (true, "f6f2de736da74c8226dbc140713fb1eea982a2075eaa1778d04f247c1623579a"), looks := true }, kinds := [], alts := [], laidByText := true, laidKinds := [.data, .data, .data], laidTests := true, laidLooks := .later }
def ClockSumsAreExactUptoCardSaid : Prop := Claim7.holds Tryd.pinned (.plain (OpenSpec.upto clockSumsAreExactSpec)) clockSumsAreExactUptoCard

/-- THE SECOND FORM's CARD OF 'deadwaxlaw1.ClockRoundsAreNear'. -/
def clockRoundsAreNearUptoCard : Claim7 := { stood := { row := clockRoundsAreNearUptoRow, standIns := [], harness := (true, "f6f2de736da74c8226dbc140713fb1eea982a2075eaa1778d04f247c1623579a"), looks := true }, kinds := [], alts := [], laidByText := true, laidKinds := [.data, .data, .data], laidTests := true, laidLooks := .later }
def ClockRoundsAreNearUptoCardSaid : Prop := Claim7.holds Tryd.pinned (.plain (OpenSpec.upto clockRoundsAreNearSpec)) clockRoundsAreNearUptoCard

/-- THE SECOND FORM's CARD OF 'deadwaxlaw1.ClockRatioOfMatchesSpec'. -/
def clockRatioOfMatchesSpecUptoCard : Claim7 := { stood := { row := clockRatioOfMatchesSpecUptoRow, standIns := [], harness := (true, "f6f2de736da74c8226dbc140713fb1eea982a2075eaa1778d04f247c1623579a"), looks := true }, kinds := [], alts := [], laidByText := true, laidKinds := [.data, .data, .data, .sentinel, .sentinel], laidTests := true, laidLooks := .later }
def ClockRatioOfMatchesSpecUptoCardSaid : Prop := Claim7.holds Tryd.pinned (.plain (OpenSpec.upto clockRatioOfMatchesSpecSpec)) clockRatioOfMatchesSpecUptoCard
end Rows
end Go.Proofs.YtcjdmffflepplaaDoor
