/-
  DERIVED. GIVEN WITH THE SEED: THE CARDS: each row of YtnhmhjhfoonakaaDoorRows.lean that lists a variable, with what it lists TIED to the program's text (the seventh form; the later family's looks); each row that meets fmt, with fmt's text TOLD by the authors' own Lean function (tested against real Go, not proved from fmt's source: count such statements apart). THE CARD IS WHAT COUNTS. Prove the row's statement (the work); the ties are given (YtnhmhjhfoonakaaDoorTie.lean); close each card by the builder's one call (the guide's Derived/Test/ToyasCard.lean, 'card_holds'). Laid BY PROGRAM, IN A SANDBOX (cutbox-door.mjs). By AI agents, Wed Nov 11 2026. No macro, syntax, notation, axiom, sorry.
-/
import Derived.Test.YtnhmhjhfoonakaaDoorRows
import GoSem.ClaimSeven
namespace Go.Proofs.YtnhmhjhfoonakaaDoor
namespace Rows

/-- THE TIED CARD OF 'deadwaxlaw2.SoundBytesMatchSpec'. -/
def soundBytesMatchSpecCard : Claim7 := { stood := { row := soundBytesMatchSpecRow, standIns := [], harness := (true, "91448520c2ac0ea1120286c4d2234ded44c4daf7b4957710227555ded8b9398f"), looks := true }, kinds := [], alts := [], laidByText := true, laidKinds := [.data, .pinned], laidTests := true, laidLooks := .later }
def SoundBytesMatchSpecCardSaid : Prop := Claim7.holds Tryd.pinned (.plain (OpenSpec.ofChange soundBytesMatchSpecSpec)) soundBytesMatchSpecCard

/-- THE TIED CARD OF 'deadwaxlaw2.SoundBytesComeBack'. -/
def soundBytesComeBackCard : Claim7 := { stood := { row := soundBytesComeBackRow, standIns := [], harness := (true, "91448520c2ac0ea1120286c4d2234ded44c4daf7b4957710227555ded8b9398f"), looks := true }, kinds := [], alts := [], laidByText := true, laidKinds := [.data, .pinned], laidTests := true, laidLooks := .later }
def SoundBytesComeBackCardSaid : Prop := Claim7.holds Tryd.pinned (.plain (OpenSpec.ofChange soundBytesComeBackSpec)) soundBytesComeBackCard

/-- THE TIED CARD OF 'deadwaxlaw2.SoundMeasuresMatchSpec'. -/
def soundMeasuresMatchSpecCard : Claim7 := { stood := { row := soundMeasuresMatchSpecRow, standIns := [], harness := (true, "91448520c2ac0ea1120286c4d2234ded44c4daf7b4957710227555ded8b9398f"), looks := true }, kinds := [], alts := [], laidByText := true, laidKinds := [.data, .data, .data, .sentinel, .sentinel], laidTests := true, laidLooks := .later }
def SoundMeasuresMatchSpecCardSaid : Prop := Claim7.holds Tryd.pinned (.plain (OpenSpec.ofChange soundMeasuresMatchSpecSpec)) soundMeasuresMatchSpecCard

/-- THE SECOND FORM's CARD OF 'deadwaxlaw2.SoundBytesMatchSpec'. -/
def soundBytesMatchSpecUptoCard : Claim7 := { stood := { row := soundBytesMatchSpecUptoRow, standIns := [], harness := (true, "91448520c2ac0ea1120286c4d2234ded44c4daf7b4957710227555ded8b9398f"), looks := true }, kinds := [], alts := [], laidByText := true, laidKinds := [.data, .pinned], laidTests := true, laidLooks := .later }
def SoundBytesMatchSpecUptoCardSaid : Prop := Claim7.holds Tryd.pinned (.plain (OpenSpec.upto soundBytesMatchSpecSpec)) soundBytesMatchSpecUptoCard

/-- THE SECOND FORM's CARD OF 'deadwaxlaw2.SoundBytesComeBack'. -/
def soundBytesComeBackUptoCard : Claim7 := { stood := { row := soundBytesComeBackUptoRow, standIns := [], harness := (true, "91448520c2ac0ea1120286c4d2234ded44c4daf7b4957710227555ded8b9398f"), looks := true }, kinds := [], alts := [], laidByText := true, laidKinds := [.data, .pinned], laidTests := true, laidLooks := .later }
def SoundBytesComeBackUptoCardSaid : Prop := Claim7.holds Tryd.pinned (.plain (OpenSpec.upto soundBytesComeBackSpec)) soundBytesComeBackUptoCard

/-- THE SECOND FORM's CARD OF 'deadwaxlaw2.SoundMeasuresMatchSpec'. -/
def soundMeasuresMatchSpecUptoCard : Claim7 := { stood := { row := soundMeasuresMatchSpecUptoRow, standIns := [], harness := (true, "91448520c2ac0ea1120286c4d2234ded44c4daf7b4957710227555ded8b9398f"), looks := true }, kinds := [], alts := [], laidByText := true, laidKinds := [.data, .data, .data, .sentinel, .sentinel], laidTests := true, laidLooks := .later }
def SoundMeasuresMatchSpecUptoCardSaid : Prop := Claim7.holds Tryd.pinned (.plain (OpenSpec.upto soundMeasuresMatchSpecSpec)) soundMeasuresMatchSpecUptoCard
end Rows
end Go.Proofs.YtnhmhjhfoonakaaDoor
