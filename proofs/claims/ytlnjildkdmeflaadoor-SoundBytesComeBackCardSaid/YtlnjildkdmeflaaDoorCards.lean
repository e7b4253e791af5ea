/-
  DERIVED. GIVEN WITH THE SEED: THE CARDS: each row of YtlnjildkdmeflaaDoorRows.lean that lists a variable, with what it lists TIED to the program's text (the seventh form; the later family's looks); each row that meets fmt, with fmt's text TOLD by the authors' own Lean function (tested against real Go, not proved from fmt's source: count such statements apart). THE CARD IS WHAT COUNTS. Prove the row's statement (the work); the ties are given (YtlnjildkdmeflaaDoorTie.lean); close each card by the builder's one call (the guide's Derived/Test/ToyasCard.lean, 'card_holds'). Laid BY PROGRAM, IN A SANDBOX (cutbox-door.mjs). By AI agents, Wed Nov 11 2026. No macro, syntax, notation, axiom, sorry.
-/
import Derived.Test.YtlnjildkdmeflaaDoorRows
import GoSem.ClaimSeven
namespace Go.Proofs.YtlnjildkdmeflaaDoor
namespace Rows

/-- THE TIED CARD OF 'deadwaxlaw2.SoundBytesMatchSpec'. -/
def soundBytesMatchSpecCard : Claim7 := { stood := { row := soundBytesMatchSpecRow, standIns := [], harness := (true, "ffe667dbba086dce523bcdfdc36f3502ce006988f007f81e1349449ac0761767"), looks := false }, kinds := [], alts := [], laidByText := true, laidKinds := [.data, .pinned], laidTests := true, laidLooks := .later }
def SoundBytesMatchSpecCardSaid : Prop := Claim7.holds Tryd.pinned (.plain (OpenSpec.ofChange soundBytesMatchSpecSpec)) soundBytesMatchSpecCard

/-- THE TIED CARD OF 'deadwaxlaw2.SoundBytesComeBack'. -/
def soundBytesComeBackCard : Claim7 := { stood := { row := soundBytesComeBackRow, standIns := [], harness := (true, "ffe667dbba086dce523bcdfdc36f3502ce006988f007f81e1349449ac0761767"), looks := false }, kinds := [], alts := [], laidByText := true, laidKinds := [.data, .pinned], laidTests := true, laidLooks := .later }
def SoundBytesComeBackCardSaid : Prop := Claim7.holds Tryd.pinned (.plain (OpenSpec.ofChange soundBytesComeBackSpec)) soundBytesComeBackCard

/-- THE SECOND FORM's CARD OF 'deadwaxlaw2.SoundBytesMatchSpec'. -/
def soundBytesMatchSpecUptoCard : Claim7 := { stood := { row := soundBytesMatchSpecUptoRow, standIns := [], harness := (true, "ffe667dbba086dce523bcdfdc36f3502ce006988f007f81e1349449ac0761767"), looks := false }, kinds := [], alts := [], laidByText := true, laidKinds := [.data, .pinned], laidTests := true, laidLooks := .later }
def SoundBytesMatchSpecUptoCardSaid : Prop := Claim7.holds Tryd.pinned (.plain (OpenSpec.upto soundBytesMatchSpecSpec)) soundBytesMatchSpecUptoCard

/-- THE SECOND FORM's CARD OF 'deadwaxlaw2.SoundBytesComeBack'. -/
def soundBytesComeBackUptoCard : Claim7 := { stood := { row := soundBytesComeBackUptoRow, standIns := [], harness := (true, "ffe667dbba086dce523bcdfdc36f3502ce006988f007f81e1349449ac0761767"), looks := false }, kinds := [], alts := [], laidByText := true, laidKinds := [.data, .pinned], laidTests := true, laidLooks := .later }
def SoundBytesComeBackUptoCardSaid : Prop := Claim7.holds Tryd.pinned (.plain (OpenSpec.upto soundBytesComeBackSpec)) soundBytesComeBackUptoCard
end Rows
end Go.Proofs.YtlnjildkdmeflaaDoor
