/-
  DERIVED. GIVEN WITH THE SEED: THE CARDS: each row of YtkmcohnhanphdaaGreatDoorRows.lean that lists a variable, with what it lists TIED to the program's text (the seventh form; the later family's looks); each row that meets fmt, with fmt's text TOLD by the authors' own Lean function (tested against real Go, not proved from fmt's source: count such statements apart). THE CARD IS WHAT COUNTS. Prove the row's statement (the work); the ties are given (YtkmcohnhanphdaaGreatDoorTie.lean); close each card by the builder's one call (the guide's Derived/Test/ToyasCard.lean, 'card_holds'). Laid BY PROGRAM, IN A SANDBOX (cutbox-door.mjs). By AI agents, Wed Nov 11 2026. No macro, syntax, notation, axiom, sorry.
-/
import Derived.Test.YtkmcohnhanphdaaGreatDoorRows
import GoSem.ClaimSeven
namespace Go.Proofs.YtkmcohnhanphdaaGreatDoor
namespace Rows

/-- THE TIED CARD OF 'deadwaxtop.TopComposedEditsSoundAlike'. -/
def topComposedEditsSoundAlikeCard : Claim7 := { stood := { row := topComposedEditsSoundAlikeRow, standIns := [], harness := (true, "e9998a977ad5cceeebc101178f0ebc6862401b933fabd34258dd593edeb327f7"), looks := false }, kinds := [], alts := [], laidByText := true, laidKinds := [.data, .pinned], laidTests := true, laidLooks := .later }
def TopComposedEditsSoundAlikeCardSaid : Prop := Claim7.holds Tryz.pinned (.plain (OpenSpec.ofChange topComposedEditsSoundAlikeSpec)) topComposedEditsSoundAlikeCard

/-- THE TIED CARD OF 'deadwaxtop.TopBuiltTakesSound'. -/
def topBuiltTakesSoundCard : Claim7 := { stood := { row := topBuiltTakesSoundRow, standIns := [], harness := (true, "e9998a977ad5cceeebc101178f0ebc6862401b933fabd34258dd593edeb327f7"), looks := false }, kinds := [], alts := [], laidByText := true, laidKinds := [.data, .pinned], laidTests := true, laidLooks := .later }
def TopBuiltTakesSoundCardSaid : Prop := Claim7.holds Tryz.pinned (.plain (OpenSpec.ofChange topBuiltTakesSoundSpec)) topBuiltTakesSoundCard

/-- THE SECOND FORM's CARD OF 'deadwaxtop.TopComposedEditsSoundAlike'. -/
def topComposedEditsSoundAlikeUptoCard : Claim7 := { stood := { row := topComposedEditsSoundAlikeUptoRow, standIns := [], harness := (true, "e9998a977ad5cceeebc101178f0ebc6862401b933fabd34258dd593edeb327f7"), looks := false }, kinds := [], alts := [], laidByText := true, laidKinds := [.data, .pinned], laidTests := true, laidLooks := .later }
def TopComposedEditsSoundAlikeUptoCardSaid : Prop := Claim7.holds Tryz.pinned (.plain (OpenSpec.upto topComposedEditsSoundAlikeSpec)) topComposedEditsSoundAlikeUptoCard

/-- THE SECOND FORM's CARD OF 'deadwaxtop.TopBuiltTakesSound'. -/
def topBuiltTakesSoundUptoCard : Claim7 := { stood := { row := topBuiltTakesSoundUptoRow, standIns := [], harness := (true, "e9998a977ad5cceeebc101178f0ebc6862401b933fabd34258dd593edeb327f7"), looks := false }, kinds := [], alts := [], laidByText := true, laidKinds := [.data, .pinned], laidTests := true, laidLooks := .later }
def TopBuiltTakesSoundUptoCardSaid : Prop := Claim7.holds Tryz.pinned (.plain (OpenSpec.upto topBuiltTakesSoundSpec)) topBuiltTakesSoundUptoCard
end Rows
end Go.Proofs.YtkmcohnhanphdaaGreatDoor
