/-
  DERIVED. GIVEN WITH THE SEED: THE CARDS: each row of YtnhmhjhfoonakaaGreatDoorRows.lean that lists a variable, with what it lists TIED to the program's text (the seventh form; the later family's looks); each row that meets fmt, with fmt's text TOLD by the authors' own Lean function (tested against real Go, not proved from fmt's source: count such statements apart). THE CARD IS WHAT COUNTS. Prove the row's statement (the work); the ties are given (YtnhmhjhfoonakaaGreatDoorTie.lean); close each card by the builder's one call (the guide's Derived/Test/ToyasCard.lean, 'card_holds'). Laid BY PROGRAM, IN A SANDBOX (cutbox-door.mjs). By AI agents, Wed Nov 11 2026. No macro, syntax, notation, axiom, sorry.
-/
import Derived.Test.YtnhmhjhfoonakaaGreatDoorRows
import GoSem.ClaimSeven
namespace Go.Proofs.YtnhmhjhfoonakaaGreatDoor
namespace Rows

/-- THE TIED CARD OF 'deadwaxlaw2.SoundGainsMatchSpec'. -/
def soundGainsMatchSpecCard : Claim7 := { stood := { row := soundGainsMatchSpecRow, standIns := [], harness := (true, "2ce119966605dda47bf349967bf944645bf63a23918d724dc8bfa6a57fcb656d"), looks := true }, kinds := [], alts := [], laidByText := true, laidKinds := [.data, .data, .data, .sentinel, .sentinel], laidTests := true, laidLooks := .later }
def SoundGainsMatchSpecCardSaid : Prop := Claim7.holds Tryz.pinned (.plain (OpenSpec.ofChange soundGainsMatchSpecSpec)) soundGainsMatchSpecCard

/-- THE TIED CARD OF 'deadwaxlaw2.SoundRoutesMatchSpec'. -/
def soundRoutesMatchSpecCard : Claim7 := { stood := { row := soundRoutesMatchSpecRow, standIns := [], harness := (true, "2ce119966605dda47bf349967bf944645bf63a23918d724dc8bfa6a57fcb656d"), looks := true }, kinds := [], alts := [], laidByText := true, laidKinds := [.data, .data, .data, .sentinel, .sentinel], laidTests := true, laidLooks := .later }
def SoundRoutesMatchSpecCardSaid : Prop := Claim7.holds Tryz.pinned (.plain (OpenSpec.ofChange soundRoutesMatchSpecSpec)) soundRoutesMatchSpecCard

/-- THE TIED CARD OF 'deadwaxlaw2.SoundNormalMatchesSpec'. -/
def soundNormalMatchesSpecCard : Claim7 := { stood := { row := soundNormalMatchesSpecRow, standIns := [], harness := (true, "2ce119966605dda47bf349967bf944645bf63a23918d724dc8bfa6a57fcb656d"), looks := true }, kinds := [], alts := [], laidByText := true, laidKinds := [.data, .data, .data, .sentinel, .sentinel], laidTests := true, laidLooks := .later }
def SoundNormalMatchesSpecCardSaid : Prop := Claim7.holds Tryz.pinned (.plain (OpenSpec.ofChange soundNormalMatchesSpecSpec)) soundNormalMatchesSpecCard

/-- THE SECOND FORM's CARD OF 'deadwaxlaw2.SoundGainsMatchSpec'. -/
def soundGainsMatchSpecUptoCard : Claim7 := { stood := { row := soundGainsMatchSpecUptoRow, standIns := [], harness := (true, "2ce119966605dda47bf349967bf944645bf63a23918d724dc8bfa6a57fcb656d"), looks := true }, kinds := [], alts := [], laidByText := true, laidKinds := [.data, .data, .data, .sentinel, .sentinel], laidTests := true, laidLooks := .later }
def SoundGainsMatchSpecUptoCardSaid : Prop := Claim7.holds Tryz.pinned (.plain (OpenSpec.upto soundGainsMatchSpecSpec)) soundGainsMatchSpecUptoCard

/-- THE SECOND FORM's CARD OF 'deadwaxlaw2.SoundRoutesMatchSpec'. -/
def soundRoutesMatchSpecUptoCard : Claim7 := { stood := { row := soundRoutesMatchSpecUptoRow, standIns := [], harness := (true, "2ce119966605dda47bf349967bf944645bf63a23918d724dc8bfa6a57fcb656d"), looks := true }, kinds := [], alts := [], laidByText := true, laidKinds := [.data, .data, .data, .sentinel, .sentinel], laidTests := true, laidLooks := .later }
def SoundRoutesMatchSpecUptoCardSaid : Prop := Claim7.holds Tryz.pinned (.plain (OpenSpec.upto soundRoutesMatchSpecSpec)) soundRoutesMatchSpecUptoCard

/-- THE SECOND FORM's CARD OF 'deadwaxlaw2.SoundNormalMatchesSpec'. -/
def soundNormalMatchesSpecUptoCard : Claim7 := { stood := { row := soundNormalMatchesSpecUptoRow, standIns := [], harness := (true, "2ce119966605dda47bf349967bf944645bf63a23918d724dc8bfa6a57fcb656d"), looks := true }, kinds := [], alts := [], laidByText := true, laidKinds := [.data, .data, .data, .sentinel, .sentinel], laidTests := true, laidLooks := .later }
def SoundNormalMatchesSpecUptoCardSaid : Prop := Claim7.holds Tryz.pinned (.plain (OpenSpec.upto soundNormalMatchesSpecSpec)) soundNormalMatchesSpecUptoCard
end Rows
end Go.Proofs.YtnhmhjhfoonakaaGreatDoor
