/-
  No cell of these rows narrows 'for every input' (looked for: loops, veiled, ifaces, maps, wideKeys, modest, calm, conditions, laid).
  DERIVED. THE GIVEN ROWS OF THIS SEAT. 3 by the template 'for every input the law returns true; each argument reads behind the call as it read before'; 0 by the template 'total and deterministic' (their statements: YtnhmhjhfoonakaaTotals.lean).
  GIVEN WITH THE SEED: the statements are not yours to turn. If you find one false, say at which input.
  Laid BY PROGRAM, IN A SANDBOX (cutbox-rows.mjs): the forced cells as the released guide's own fill.sh prints them over the translation 9b16ba971a400aa3… (all of the seat's roots in one cut). By AI agents, Wed Nov 11 2026. No macro, syntax, notation, axiom, sorry.
-/
import Derived.Test.YtnhmhjhfoonakaaChecked
import GoSem.Claim
import GoSem.ClaimJoined
import GoSem.ClaimMapViews
import Derived.JoinedTies
import Derived.KernelRfl
namespace Go.Proofs.Ytnhmhjhfoonakaa
/- THE CELL 'sum', in the pinned program and in every row, IS THE sha256 OF THE DUMP (.gsa) THAT YtnhmhjhfoonakaaProg.lean LOADS. Nothing in Lean hashes anything: it is a label: what it is worth is what the hold of that sum in a sandbox is worth. -/
noncomputable def Try.pinned : Pinned := { name := "ytnhmhjhfoonakaa", sum := "9b16ba971a400aa345f52b94711d18adcffcbfbdf710912f8344a8cfaf85ea9e", checked := Try.checked }
namespace Rows
def none {H : Type} : Left H := { results := [], args := [] }

/-- 'deadwaxlaw2.SoundMixesAreSums': WHATEVER THE INPUT: true; the input reads as it did. -/
def soundMixesAreSumsSpec : ChangeSpec := { name := "soundMixesAreSums", fn := fun _ => fun
  | [d1, d2] => { results := [.lit (.bool true)], args := [d1, d2] }
  | _ => none }
def soundMixesAreSumsRow : OpenClaim := { program := "ytnhmhjhfoonakaa", sum := "9b16ba971a400aa345f52b94711d18adcffcbfbdf710912f8344a8cfaf85ea9e", func := "deadwax/deadwaxlaw2.SoundMixesAreSums", spec := "soundMixesAreSums", unfollowed := true, recurses := true, apart := false }
def SoundMixesAreSumsSaid : Prop := soundMixesAreSumsRow.holds Try.pinned (OpenSpec.ofChange soundMixesAreSumsSpec)

/-- ITS FALSE NEIGHBOUR: 'it returns false'. Refute it at one input. -/
def soundMixesAreSumsWrong : ChangeSpec := { name := "soundMixesAreSums", fn := fun _ => fun
  | [d1, d2] => { results := [.lit (.bool false)], args := [d1, d2] }
  | _ => none }
def SoundMixesAreSumsWrongFalsely : Prop := soundMixesAreSumsRow.holds Try.pinned (OpenSpec.ofChange soundMixesAreSumsWrong)

/-- 'deadwaxlaw2.SoundNormalHasItsPeak': WHATEVER THE INPUT: true; the input reads as it did. -/
def soundNormalHasItsPeakSpec : ChangeSpec := { name := "soundNormalHasItsPeak", fn := fun _ => fun
  | [d1, d2] => { results := [.lit (.bool true)], args := [d1, d2] }
  | _ => none }
def soundNormalHasItsPeakRow : OpenClaim := { program := "ytnhmhjhfoonakaa", sum := "9b16ba971a400aa345f52b94711d18adcffcbfbdf710912f8344a8cfaf85ea9e", func := "deadwax/deadwaxlaw2.SoundNormalHasItsPeak", spec := "soundNormalHasItsPeak", unfollowed := true, recurses := true, apart := false }
def SoundNormalHasItsPeakSaid : Prop := soundNormalHasItsPeakRow.holds Try.pinned (OpenSpec.ofChange soundNormalHasItsPeakSpec)

/-- ITS FALSE NEIGHBOUR: 'it returns false'. Refute it at one input. -/
def soundNormalHasItsPeakWrong : ChangeSpec := { name := "soundNormalHasItsPeak", fn := fun _ => fun
  | [d1, d2] => { results := [.lit (.bool false)], args := [d1, d2] }
  | _ => none }
def SoundNormalHasItsPeakWrongFalsely : Prop := soundNormalHasItsPeakRow.holds Try.pinned (OpenSpec.ofChange soundNormalHasItsPeakWrong)

/-- 'deadwaxlaw2.SoundSpansMatchSpec': WHATEVER THE INPUT: true; the input reads as it did. -/
def soundSpansMatchSpecSpec : ChangeSpec := { name := "soundSpansMatchSpec", fn := fun _ => fun
  | [d1, d2, d3, d4] => { results := [.lit (.bool true)], args := [d1, d2, d3, d4] }
  | _ => none }
def soundSpansMatchSpecRow : OpenClaim := { program := "ytnhmhjhfoonakaa", sum := "9b16ba971a400aa345f52b94711d18adcffcbfbdf710912f8344a8cfaf85ea9e", func := "deadwax/deadwaxlaw2.SoundSpansMatchSpec", spec := "soundSpansMatchSpec", unfollowed := true, recurses := true, apart := false }
def SoundSpansMatchSpecSaid : Prop := soundSpansMatchSpecRow.holds Try.pinned (OpenSpec.ofChange soundSpansMatchSpecSpec)

/-- ITS FALSE NEIGHBOUR: 'it returns false'. Refute it at one input. -/
def soundSpansMatchSpecWrong : ChangeSpec := { name := "soundSpansMatchSpec", fn := fun _ => fun
  | [d1, d2, d3, d4] => { results := [.lit (.bool false)], args := [d1, d2, d3, d4] }
  | _ => none }
def SoundSpansMatchSpecWrongFalsely : Prop := soundSpansMatchSpecRow.holds Try.pinned (OpenSpec.ofChange soundSpansMatchSpecWrong)

/- THE SECOND FORM. 'bulk': how many values and letters a reading holds, each counted each time it is reached (what is shared counts as often as it is met; a slice's spare places count too). A statement '..UptoSaid' is the law's where the arguments, and the package variables that the reading takes, are together of bulk at most 1048576: NARROWER than '..Said'. Prove '..Said' where nothing that the law and all that it calls make is longer than what came in: it says more and counts as full. Else prove '..UptoSaid'. A law counts once. -/
mutual
def uptoBulk {H : Type} : DataW H → Nat
  | .lit (.string bytes) => bytes.length + 1
  | .lit _ => 1
  | .nil => 1
  | .ptr d => uptoBulk d + 1
  | .slice elems spare => uptoBulkAll elems + uptoBulkAll spare + 1
  | .agg parts => uptoBulkAll parts + 1
  | .iface _ d => uptoBulk d + 1
  | .map entries => uptoBulkEntries entries + 1
  | .held _ => 1
def uptoBulkAll {H : Type} : List (DataW H) → Nat
  | [] => 0
  | d :: r => uptoBulk d + uptoBulkAll r
def uptoBulkEntries {H : Type} : List (Lit × DataW H) → Nat
  | [] => 0
  | x :: r => uptoBulkEntry x + uptoBulkEntries r
def uptoBulkEntry {H : Type} : Lit × DataW H → Nat
  | (.string bytes, d) => bytes.length + uptoBulk d + 1
  | (_, d) => uptoBulk d + 1
 end
def uptoSmall : (H : Type) → List (DataW H) → Bool := fun _ ds => decide (uptoBulkAll ds ≤ 1048576)
def OpenSpec.upto (s : _root_.Go.ChangeSpec) : _root_.Go.OpenSpec := { _root_.Go.OpenSpec.ofChange s with cond := some uptoSmall }

/-- 'deadwaxlaw2.SoundMixesAreSums', WHERE WHAT IT READS IS OF BULK AT MOST 1048576: true; the input reads as it did. -/
def soundMixesAreSumsUptoRow : OpenClaim := { program := "ytnhmhjhfoonakaa", sum := "9b16ba971a400aa345f52b94711d18adcffcbfbdf710912f8344a8cfaf85ea9e", func := "deadwax/deadwaxlaw2.SoundMixesAreSums", spec := "soundMixesAreSums", unfollowed := true, recurses := true, apart := false, narrowed := true }
def SoundMixesAreSumsUptoSaid : Prop := soundMixesAreSumsUptoRow.holds Try.pinned (OpenSpec.upto soundMixesAreSumsSpec)

/-- 'deadwaxlaw2.SoundNormalHasItsPeak', WHERE WHAT IT READS IS OF BULK AT MOST 1048576: true; the input reads as it did. -/
def soundNormalHasItsPeakUptoRow : OpenClaim := { program := "ytnhmhjhfoonakaa", sum := "9b16ba971a400aa345f52b94711d18adcffcbfbdf710912f8344a8cfaf85ea9e", func := "deadwax/deadwaxlaw2.SoundNormalHasItsPeak", spec := "soundNormalHasItsPeak", unfollowed := true, recurses := true, apart := false, narrowed := true }
def SoundNormalHasItsPeakUptoSaid : Prop := soundNormalHasItsPeakUptoRow.holds Try.pinned (OpenSpec.upto soundNormalHasItsPeakSpec)

/-- 'deadwaxlaw2.SoundSpansMatchSpec', WHERE WHAT IT READS IS OF BULK AT MOST 1048576: true; the input reads as it did. -/
def soundSpansMatchSpecUptoRow : OpenClaim := { program := "ytnhmhjhfoonakaa", sum := "9b16ba971a400aa345f52b94711d18adcffcbfbdf710912f8344a8cfaf85ea9e", func := "deadwax/deadwaxlaw2.SoundSpansMatchSpec", spec := "soundSpansMatchSpec", unfollowed := true, recurses := true, apart := false, narrowed := true }
def SoundSpansMatchSpecUptoSaid : Prop := soundSpansMatchSpecUptoRow.holds Try.pinned (OpenSpec.upto soundSpansMatchSpecSpec)

end Rows
end Go.Proofs.Ytnhmhjhfoonakaa
