/-
  No cell of these rows narrows 'for every input' (looked for: loops, veiled, ifaces, maps, wideKeys, modest, calm, conditions, laid).
  DERIVED. THE GIVEN ROWS OF THIS SEAT. 16 by the template 'for every input the law returns true; each argument reads behind the call as it read before'; 0 by the template 'total and deterministic' (their statements: YtpnbkkpbgpcgiaaTotals.lean).
  GIVEN WITH THE SEED: the statements are not yours to turn. If you find one false, say at which input.
  Laid BY PROGRAM, IN A SANDBOX (cutbox-rows.mjs): the forced cells as the released guide's own fill.sh prints them over the translation 093638cf84d2cffe… (all of the seat's roots in one cut). By AI agents, Wed Nov 11 2026. No macro, syntax, notation, axiom, sorry.
-/
import Derived.Test.YtpnbkkpbgpcgiaaChecked
import GoSem.Claim
import GoSem.ClaimJoined
import GoSem.ClaimMapViews
import Derived.JoinedTies
import Derived.KernelRfl
namespace Go.Proofs.Ytpnbkkpbgpcgiaa
/- THE CELL 'sum', in the pinned program and in every row, IS THE sha256 OF THE DUMP (.gsa) THAT YtpnbkkpbgpcgiaaProg.lean LOADS. Nothing in Lean hashes anything: it is a label: what it is worth is what the hold of that sum in a sandbox is worth. -/
noncomputable def Try.pinned : Pinned := { name := "ytpnbkkpbgpcgiaa", sum := "093638cf84d2cffee05144676626488c1109a8a4267a195d58b3c09c09275a17", checked := Try.checked }
namespace Rows
def none {H : Type} : Left H := { results := [], args := [] }

/-- 'deadwaxlaw2.SoundResamplesKeepPlaces': WHATEVER THE INPUT: true; the input reads as it did. -/
def soundResamplesKeepPlacesSpec : ChangeSpec := { name := "soundResamplesKeepPlaces", fn := fun _ => fun
  | [d1, d2] => { results := [.lit (.bool true)], args := [d1, d2] }
  | _ => none }
def soundResamplesKeepPlacesRow : OpenClaim := { program := "ytpnbkkpbgpcgiaa", sum := "093638cf84d2cffee05144676626488c1109a8a4267a195d58b3c09c09275a17", func := "deadwax/deadwaxlaw2.SoundResamplesKeepPlaces", spec := "soundResamplesKeepPlaces", apart := false }
def SoundResamplesKeepPlacesSaid : Prop := soundResamplesKeepPlacesRow.holds Try.pinned (OpenSpec.ofChange soundResamplesKeepPlacesSpec)

/-- ITS FALSE NEIGHBOUR: 'it returns false'. Refute it at one input. -/
def soundResamplesKeepPlacesWrong : ChangeSpec := { name := "soundResamplesKeepPlaces", fn := fun _ => fun
  | [d1, d2] => { results := [.lit (.bool false)], args := [d1, d2] }
  | _ => none }
def SoundResamplesKeepPlacesWrongFalsely : Prop := soundResamplesKeepPlacesRow.holds Try.pinned (OpenSpec.ofChange soundResamplesKeepPlacesWrong)

/-- 'deadwaxlaw2.SoundCutsMatchSpec': WHATEVER THE INPUT: true; the input reads as it did. -/
def soundCutsMatchSpecSpec : ChangeSpec := { name := "soundCutsMatchSpec", fn := fun _ => fun
  | [d1, d2] => { results := [.lit (.bool true)], args := [d1, d2] }
  | _ => none }
def soundCutsMatchSpecRow : OpenClaim := { program := "ytpnbkkpbgpcgiaa", sum := "093638cf84d2cffee05144676626488c1109a8a4267a195d58b3c09c09275a17", func := "deadwax/deadwaxlaw2.SoundCutsMatchSpec", spec := "soundCutsMatchSpec", apart := false }
def SoundCutsMatchSpecSaid : Prop := soundCutsMatchSpecRow.holds Try.pinned (OpenSpec.ofChange soundCutsMatchSpecSpec)

/-- ITS FALSE NEIGHBOUR: 'it returns false'. Refute it at one input. -/
def soundCutsMatchSpecWrong : ChangeSpec := { name := "soundCutsMatchSpec", fn := fun _ => fun
  | [d1, d2] => { results := [.lit (.bool false)], args := [d1, d2] }
  | _ => none }
def SoundCutsMatchSpecWrongFalsely : Prop := soundCutsMatchSpecRow.holds Try.pinned (OpenSpec.ofChange soundCutsMatchSpecWrong)

/-- 'deadwaxlaw2.SoundResamplesMatchSpec': WHATEVER THE INPUT: true; the input reads as it did. -/
def soundResamplesMatchSpecSpec : ChangeSpec := { name := "soundResamplesMatchSpec", fn := fun _ => fun
  | [d1, d2] => { results := [.lit (.bool true)], args := [d1, d2] }
  | _ => none }
def soundResamplesMatchSpecRow : OpenClaim := { program := "ytpnbkkpbgpcgiaa", sum := "093638cf84d2cffee05144676626488c1109a8a4267a195d58b3c09c09275a17", func := "deadwax/deadwaxlaw2.SoundResamplesMatchSpec", spec := "soundResamplesMatchSpec", recurses := true, apart := false }
def SoundResamplesMatchSpecSaid : Prop := soundResamplesMatchSpecRow.holds Try.pinned (OpenSpec.ofChange soundResamplesMatchSpecSpec)

/-- ITS FALSE NEIGHBOUR: 'it returns false'. Refute it at one input. -/
def soundResamplesMatchSpecWrong : ChangeSpec := { name := "soundResamplesMatchSpec", fn := fun _ => fun
  | [d1, d2] => { results := [.lit (.bool false)], args := [d1, d2] }
  | _ => none }
def SoundResamplesMatchSpecWrongFalsely : Prop := soundResamplesMatchSpecRow.holds Try.pinned (OpenSpec.ofChange soundResamplesMatchSpecWrong)

/-- 'deadwaxlaw2.SoundQuantisesMatchSpec': WHATEVER THE INPUT: true; the input reads as it did. -/
def soundQuantisesMatchSpecSpec : ChangeSpec := { name := "soundQuantisesMatchSpec", fn := fun _ => fun
  | [d1, d2] => { results := [.lit (.bool true)], args := [d1, d2] }
  | _ => none }
def soundQuantisesMatchSpecRow : OpenClaim := { program := "ytpnbkkpbgpcgiaa", sum := "093638cf84d2cffee05144676626488c1109a8a4267a195d58b3c09c09275a17", func := "deadwax/deadwaxlaw2.SoundQuantisesMatchSpec", spec := "soundQuantisesMatchSpec", unfollowed := true, recurses := true, apart := false }
def SoundQuantisesMatchSpecSaid : Prop := soundQuantisesMatchSpecRow.holds Try.pinned (OpenSpec.ofChange soundQuantisesMatchSpecSpec)

/-- ITS FALSE NEIGHBOUR: 'it returns false'. Refute it at one input. -/
def soundQuantisesMatchSpecWrong : ChangeSpec := { name := "soundQuantisesMatchSpec", fn := fun _ => fun
  | [d1, d2] => { results := [.lit (.bool false)], args := [d1, d2] }
  | _ => none }
def SoundQuantisesMatchSpecWrongFalsely : Prop := soundQuantisesMatchSpecRow.holds Try.pinned (OpenSpec.ofChange soundQuantisesMatchSpecWrong)

/-- 'deadwaxlaw2.SoundQuantisesOnce': WHATEVER THE INPUT: true; the input reads as it did. -/
def soundQuantisesOnceSpec : ChangeSpec := { name := "soundQuantisesOnce", fn := fun _ => fun
  | [d1, d2, d3] => { results := [.lit (.bool true)], args := [d1, d2, d3] }
  | _ => none }
def soundQuantisesOnceRow : OpenClaim := { program := "ytpnbkkpbgpcgiaa", sum := "093638cf84d2cffee05144676626488c1109a8a4267a195d58b3c09c09275a17", func := "deadwax/deadwaxlaw2.SoundQuantisesOnce", spec := "soundQuantisesOnce", unfollowed := true, recurses := true, apart := false }
def SoundQuantisesOnceSaid : Prop := soundQuantisesOnceRow.holds Try.pinned (OpenSpec.ofChange soundQuantisesOnceSpec)

/-- ITS FALSE NEIGHBOUR: 'it returns false'. Refute it at one input. -/
def soundQuantisesOnceWrong : ChangeSpec := { name := "soundQuantisesOnce", fn := fun _ => fun
  | [d1, d2, d3] => { results := [.lit (.bool false)], args := [d1, d2, d3] }
  | _ => none }
def SoundQuantisesOnceWrongFalsely : Prop := soundQuantisesOnceRow.holds Try.pinned (OpenSpec.ofChange soundQuantisesOnceWrong)

/-- 'deadwaxlaw2.SoundOverviewsMatchSpec': WHATEVER THE INPUT: true; the input reads as it did. -/
def soundOverviewsMatchSpecSpec : ChangeSpec := { name := "soundOverviewsMatchSpec", fn := fun _ => fun
  | [d1, d2, d3, d4, d5] => { results := [.lit (.bool true)], args := [d1, d2, d3, d4, d5] }
  | _ => none }
def soundOverviewsMatchSpecRow : OpenClaim := { program := "ytpnbkkpbgpcgiaa", sum := "093638cf84d2cffee05144676626488c1109a8a4267a195d58b3c09c09275a17", func := "deadwax/deadwaxlaw2.SoundOverviewsMatchSpec", spec := "soundOverviewsMatchSpec", apart := false }
def SoundOverviewsMatchSpecSaid : Prop := soundOverviewsMatchSpecRow.holds Try.pinned (OpenSpec.ofChange soundOverviewsMatchSpecSpec)

/-- ITS FALSE NEIGHBOUR: 'it returns false'. Refute it at one input. -/
def soundOverviewsMatchSpecWrong : ChangeSpec := { name := "soundOverviewsMatchSpec", fn := fun _ => fun
  | [d1, d2, d3, d4, d5] => { results := [.lit (.bool false)], args := [d1, d2, d3, d4, d5] }
  | _ => none }
def SoundOverviewsMatchSpecWrongFalsely : Prop := soundOverviewsMatchSpecRow.holds Try.pinned (OpenSpec.ofChange soundOverviewsMatchSpecWrong)

/-- 'deadwaxlaw2.SoundOverviewsCoarsen': WHATEVER THE INPUT: true; the input reads as it did. -/
def soundOverviewsCoarsenSpec : ChangeSpec := { name := "soundOverviewsCoarsen", fn := fun _ => fun
  | [d1, d2, d3, d4] => { results := [.lit (.bool true)], args := [d1, d2, d3, d4] }
  | _ => none }
def soundOverviewsCoarsenRow : OpenClaim := { program := "ytpnbkkpbgpcgiaa", sum := "093638cf84d2cffee05144676626488c1109a8a4267a195d58b3c09c09275a17", func := "deadwax/deadwaxlaw2.SoundOverviewsCoarsen", spec := "soundOverviewsCoarsen", apart := false }
def SoundOverviewsCoarsenSaid : Prop := soundOverviewsCoarsenRow.holds Try.pinned (OpenSpec.ofChange soundOverviewsCoarsenSpec)

/-- ITS FALSE NEIGHBOUR: 'it returns false'. Refute it at one input. -/
def soundOverviewsCoarsenWrong : ChangeSpec := { name := "soundOverviewsCoarsen", fn := fun _ => fun
  | [d1, d2, d3, d4] => { results := [.lit (.bool false)], args := [d1, d2, d3, d4] }
  | _ => none }
def SoundOverviewsCoarsenWrongFalsely : Prop := soundOverviewsCoarsenRow.holds Try.pinned (OpenSpec.ofChange soundOverviewsCoarsenWrong)

/-- 'deadwaxlaw2.SoundChecksMatchSpec': WHATEVER THE INPUT: true; the input reads as it did. -/
def soundChecksMatchSpecSpec : ChangeSpec := { name := "soundChecksMatchSpec", fn := fun _ => fun
  | [d1, d2, d3, d4] => { results := [.lit (.bool true)], args := [d1, d2, d3, d4] }
  | _ => none }
def soundChecksMatchSpecRow : OpenClaim := { program := "ytpnbkkpbgpcgiaa", sum := "093638cf84d2cffee05144676626488c1109a8a4267a195d58b3c09c09275a17", func := "deadwax/deadwaxlaw2.SoundChecksMatchSpec", spec := "soundChecksMatchSpec", unfollowed := true, recurses := true, apart := false }
def SoundChecksMatchSpecSaid : Prop := soundChecksMatchSpecRow.holds Try.pinned (OpenSpec.ofChange soundChecksMatchSpecSpec)

/-- ITS FALSE NEIGHBOUR: 'it returns false'. Refute it at one input. -/
def soundChecksMatchSpecWrong : ChangeSpec := { name := "soundChecksMatchSpec", fn := fun _ => fun
  | [d1, d2, d3, d4] => { results := [.lit (.bool false)], args := [d1, d2, d3, d4] }
  | _ => none }
def SoundChecksMatchSpecWrongFalsely : Prop := soundChecksMatchSpecRow.holds Try.pinned (OpenSpec.ofChange soundChecksMatchSpecWrong)

/-- 'deadwaxlaw2.SoundFadesMatchSpec': WHATEVER THE INPUT: true; the input reads as it did. -/
def soundFadesMatchSpecSpec : ChangeSpec := { name := "soundFadesMatchSpec", fn := fun _ => fun
  | [d1, d2, d3, d4] => { results := [.lit (.bool true)], args := [d1, d2, d3, d4] }
  | _ => none }
def soundFadesMatchSpecRow : OpenClaim := { program := "ytpnbkkpbgpcgiaa", sum := "093638cf84d2cffee05144676626488c1109a8a4267a195d58b3c09c09275a17", func := "deadwax/deadwaxlaw2.SoundFadesMatchSpec", spec := "soundFadesMatchSpec", unfollowed := true, recurses := true, apart := false }
def SoundFadesMatchSpecSaid : Prop := soundFadesMatchSpecRow.holds Try.pinned (OpenSpec.ofChange soundFadesMatchSpecSpec)

/-- ITS FALSE NEIGHBOUR: 'it returns false'. Refute it at one input. -/
def soundFadesMatchSpecWrong : ChangeSpec := { name := "soundFadesMatchSpec", fn := fun _ => fun
  | [d1, d2, d3, d4] => { results := [.lit (.bool false)], args := [d1, d2, d3, d4] }
  | _ => none }
def SoundFadesMatchSpecWrongFalsely : Prop := soundFadesMatchSpecRow.holds Try.pinned (OpenSpec.ofChange soundFadesMatchSpecWrong)

/-- 'deadwaxlaw2.SoundFadesAreQuieter': WHATEVER THE INPUT: true; the input reads as it did. -/
def soundFadesAreQuieterSpec : ChangeSpec := { name := "soundFadesAreQuieter", fn := fun _ => fun
  | [d1, d2, d3, d4] => { results := [.lit (.bool true)], args := [d1, d2, d3, d4] }
  | _ => none }
def soundFadesAreQuieterRow : OpenClaim := { program := "ytpnbkkpbgpcgiaa", sum := "093638cf84d2cffee05144676626488c1109a8a4267a195d58b3c09c09275a17", func := "deadwax/deadwaxlaw2.SoundFadesAreQuieter", spec := "soundFadesAreQuieter", unfollowed := true, recurses := true, apart := false }
def SoundFadesAreQuieterSaid : Prop := soundFadesAreQuieterRow.holds Try.pinned (OpenSpec.ofChange soundFadesAreQuieterSpec)

/-- ITS FALSE NEIGHBOUR: 'it returns false'. Refute it at one input. -/
def soundFadesAreQuieterWrong : ChangeSpec := { name := "soundFadesAreQuieter", fn := fun _ => fun
  | [d1, d2, d3, d4] => { results := [.lit (.bool false)], args := [d1, d2, d3, d4] }
  | _ => none }
def SoundFadesAreQuieterWrongFalsely : Prop := soundFadesAreQuieterRow.holds Try.pinned (OpenSpec.ofChange soundFadesAreQuieterWrong)

/-- 'deadwaxlaw2.SoundPacksMatchSpec': WHATEVER THE INPUT: true; the input reads as it did. -/
def soundPacksMatchSpecSpec : ChangeSpec := { name := "soundPacksMatchSpec", fn := fun _ => fun
  | [d1, d2] => { results := [.lit (.bool true)], args := [d1, d2] }
  | _ => none }
def soundPacksMatchSpecRow : OpenClaim := { program := "ytpnbkkpbgpcgiaa", sum := "093638cf84d2cffee05144676626488c1109a8a4267a195d58b3c09c09275a17", func := "deadwax/deadwaxlaw2.SoundPacksMatchSpec", spec := "soundPacksMatchSpec", apart := false }
def SoundPacksMatchSpecSaid : Prop := soundPacksMatchSpecRow.holds Try.pinned (OpenSpec.ofChange soundPacksMatchSpecSpec)

/-- ITS FALSE NEIGHBOUR: 'it returns false'. Refute it at one input. -/
def soundPacksMatchSpecWrong : ChangeSpec := { name := "soundPacksMatchSpec", fn := fun _ => fun
  | [d1, d2] => { results := [.lit (.bool false)], args := [d1, d2] }
  | _ => none }
def SoundPacksMatchSpecWrongFalsely : Prop := soundPacksMatchSpecRow.holds Try.pinned (OpenSpec.ofChange soundPacksMatchSpecWrong)

/-- 'deadwaxlaw2.SoundPacksComeBack': WHATEVER THE INPUT: true; the input reads as it did. -/
def soundPacksComeBackSpec : ChangeSpec := { name := "soundPacksComeBack", fn := fun _ => fun
  | [d1, d2] => { results := [.lit (.bool true)], args := [d1, d2] }
  | _ => none }
def soundPacksComeBackRow : OpenClaim := { program := "ytpnbkkpbgpcgiaa", sum := "093638cf84d2cffee05144676626488c1109a8a4267a195d58b3c09c09275a17", func := "deadwax/deadwaxlaw2.SoundPacksComeBack", spec := "soundPacksComeBack", apart := false }
def SoundPacksComeBackSaid : Prop := soundPacksComeBackRow.holds Try.pinned (OpenSpec.ofChange soundPacksComeBackSpec)

/-- ITS FALSE NEIGHBOUR: 'it returns false'. Refute it at one input. -/
def soundPacksComeBackWrong : ChangeSpec := { name := "soundPacksComeBack", fn := fun _ => fun
  | [d1, d2] => { results := [.lit (.bool false)], args := [d1, d2] }
  | _ => none }
def SoundPacksComeBackWrongFalsely : Prop := soundPacksComeBackRow.holds Try.pinned (OpenSpec.ofChange soundPacksComeBackWrong)

/-- 'deadwaxlaw2.SoundMixesMatchSpec': WHATEVER THE INPUT: true; the input reads as it did. -/
def soundMixesMatchSpecSpec : ChangeSpec := { name := "soundMixesMatchSpec", fn := fun _ => fun
  | [d1, d2] => { results := [.lit (.bool true)], args := [d1, d2] }
  | _ => none }
def soundMixesMatchSpecRow : OpenClaim := { program := "ytpnbkkpbgpcgiaa", sum := "093638cf84d2cffee05144676626488c1109a8a4267a195d58b3c09c09275a17", func := "deadwax/deadwaxlaw2.SoundMixesMatchSpec", spec := "soundMixesMatchSpec", apart := false }
def SoundMixesMatchSpecSaid : Prop := soundMixesMatchSpecRow.holds Try.pinned (OpenSpec.ofChange soundMixesMatchSpecSpec)

/-- ITS FALSE NEIGHBOUR: 'it returns false'. Refute it at one input. -/
def soundMixesMatchSpecWrong : ChangeSpec := { name := "soundMixesMatchSpec", fn := fun _ => fun
  | [d1, d2] => { results := [.lit (.bool false)], args := [d1, d2] }
  | _ => none }
def SoundMixesMatchSpecWrongFalsely : Prop := soundMixesMatchSpecRow.holds Try.pinned (OpenSpec.ofChange soundMixesMatchSpecWrong)

/-- 'deadwaxlaw2.SoundCrossesMatchSpec': WHATEVER THE INPUT: true; the input reads as it did. -/
def soundCrossesMatchSpecSpec : ChangeSpec := { name := "soundCrossesMatchSpec", fn := fun _ => fun
  | [d1, d2, d3, d4] => { results := [.lit (.bool true)], args := [d1, d2, d3, d4] }
  | _ => none }
def soundCrossesMatchSpecRow : OpenClaim := { program := "ytpnbkkpbgpcgiaa", sum := "093638cf84d2cffee05144676626488c1109a8a4267a195d58b3c09c09275a17", func := "deadwax/deadwaxlaw2.SoundCrossesMatchSpec", spec := "soundCrossesMatchSpec", recurses := true, apart := false }
def SoundCrossesMatchSpecSaid : Prop := soundCrossesMatchSpecRow.holds Try.pinned (OpenSpec.ofChange soundCrossesMatchSpecSpec)

/-- ITS FALSE NEIGHBOUR: 'it returns false'. Refute it at one input. -/
def soundCrossesMatchSpecWrong : ChangeSpec := { name := "soundCrossesMatchSpec", fn := fun _ => fun
  | [d1, d2, d3, d4] => { results := [.lit (.bool false)], args := [d1, d2, d3, d4] }
  | _ => none }
def SoundCrossesMatchSpecWrongFalsely : Prop := soundCrossesMatchSpecRow.holds Try.pinned (OpenSpec.ofChange soundCrossesMatchSpecWrong)

/-- 'deadwaxlaw2.SoundCutsJoin': WHATEVER THE INPUT: true; the input reads as it did. -/
def soundCutsJoinSpec : ChangeSpec := { name := "soundCutsJoin", fn := fun _ => fun
  | [d1, d2] => { results := [.lit (.bool true)], args := [d1, d2] }
  | _ => none }
def soundCutsJoinRow : OpenClaim := { program := "ytpnbkkpbgpcgiaa", sum := "093638cf84d2cffee05144676626488c1109a8a4267a195d58b3c09c09275a17", func := "deadwax/deadwaxlaw2.SoundCutsJoin", spec := "soundCutsJoin", unfollowed := true, recurses := true, apart := false }
def SoundCutsJoinSaid : Prop := soundCutsJoinRow.holds Try.pinned (OpenSpec.ofChange soundCutsJoinSpec)

/-- ITS FALSE NEIGHBOUR: 'it returns false'. Refute it at one input. -/
def soundCutsJoinWrong : ChangeSpec := { name := "soundCutsJoin", fn := fun _ => fun
  | [d1, d2] => { results := [.lit (.bool false)], args := [d1, d2] }
  | _ => none }
def SoundCutsJoinWrongFalsely : Prop := soundCutsJoinRow.holds Try.pinned (OpenSpec.ofChange soundCutsJoinWrong)

/-- 'deadwaxlaw2.SoundCrossesKeep': WHATEVER THE INPUT: true; the input reads as it did. -/
def soundCrossesKeepSpec : ChangeSpec := { name := "soundCrossesKeep", fn := fun _ => fun
  | [d1, d2, d3, d4] => { results := [.lit (.bool true)], args := [d1, d2, d3, d4] }
  | _ => none }
def soundCrossesKeepRow : OpenClaim := { program := "ytpnbkkpbgpcgiaa", sum := "093638cf84d2cffee05144676626488c1109a8a4267a195d58b3c09c09275a17", func := "deadwax/deadwaxlaw2.SoundCrossesKeep", spec := "soundCrossesKeep", apart := false }
def SoundCrossesKeepSaid : Prop := soundCrossesKeepRow.holds Try.pinned (OpenSpec.ofChange soundCrossesKeepSpec)

/-- ITS FALSE NEIGHBOUR: 'it returns false'. Refute it at one input. -/
def soundCrossesKeepWrong : ChangeSpec := { name := "soundCrossesKeep", fn := fun _ => fun
  | [d1, d2, d3, d4] => { results := [.lit (.bool false)], args := [d1, d2, d3, d4] }
  | _ => none }
def SoundCrossesKeepWrongFalsely : Prop := soundCrossesKeepRow.holds Try.pinned (OpenSpec.ofChange soundCrossesKeepWrong)

/- THE SECOND FORM. 'bulk': how many values and letters a reading holds, each counted each time it is reached (what is shared counts as often as it is met; a slice's spare places count too). A statement '..UptoSaid' is the law's where the arguments, and the package variables that the reading takes, are together of bulk at most 1048576: NARROWER than '..Said'. Prove '..Said' where nothing that the law and all that it calls make is longer than what came in: it says more and counts as full. Else prove '..UptoSaid'. A law counts once. -/
mutual
def uptoBulk {H : Type} : DataW H → Nat
  | .lit (.string bytes) => bytes.length + 1
  | .lit _ => 1
  | .nil => 1
  | .ptr d => uptoBulk d + 1
  | .slice elems spare => uptoBulkAll elems + uptoBulkAll spare + 1
  | .agg parts => uptoBulkAll parts + 1
  | .iface _ d => uptoBulk d + 1
  | .map entries => uptoBulkEntries entries + 1
  | .held _ => 1
def uptoBulkAll {H : Type} : List (DataW H) → Nat
  | [] => 0
  | d :: r => uptoBulk d + uptoBulkAll r
def uptoBulkEntries {H : Type} : List (Lit × DataW H) → Nat
  | [] => 0
  | x :: r => uptoBulkEntry x + uptoBulkEntries r
def uptoBulkEntry {H : Type} : Lit × DataW H → Nat
  | (.string bytes, d) => bytes.length + uptoBulk d + 1
  | (_, d) => uptoBulk d + 1
 end
def uptoSmall : (H : Type) → List (DataW H) → Bool := fun _ ds => decide (uptoBulkAll ds ≤ 1048576)
def OpenSpec.upto (s : _root_.Go.ChangeSpec) : _root_.Go.OpenSpec := { _root_.Go.OpenSpec.ofChange s with cond := some uptoSmall }

/-- 'deadwaxlaw2.SoundResamplesKeepPlaces', WHERE WHAT IT READS IS OF BULK AT MOST 1048576: true; the input reads as it did. -/
def soundResamplesKeepPlacesUptoRow : OpenClaim := { program := "ytpnbkkpbgpcgiaa", sum := "093638cf84d2cffee05144676626488c1109a8a4267a195d58b3c09c09275a17", func := "deadwax/deadwaxlaw2.SoundResamplesKeepPlaces", spec := "soundResamplesKeepPlaces", apart := false, narrowed := true }
def SoundResamplesKeepPlacesUptoSaid : Prop := soundResamplesKeepPlacesUptoRow.holds Try.pinned (OpenSpec.upto soundResamplesKeepPlacesSpec)

/-- 'deadwaxlaw2.SoundCutsMatchSpec', WHERE WHAT IT READS IS OF BULK AT MOST 1048576: true; the input reads as it did. -/
def soundCutsMatchSpecUptoRow : OpenClaim := { program := "ytpnbkkpbgpcgiaa", sum := "093638cf84d2cffee05144676626488c1109a8a4267a195d58b3c09c09275a17", func := "deadwax/deadwaxlaw2.SoundCutsMatchSpec", spec := "soundCutsMatchSpec", apart := false, narrowed := true }
def SoundCutsMatchSpecUptoSaid : Prop := soundCutsMatchSpecUptoRow.holds Try.pinned (OpenSpec.upto soundCutsMatchSpecSpec)

/-- 'deadwaxlaw2.SoundResamplesMatchSpec', WHERE WHAT IT READS IS OF BULK AT MOST 1048576: true; the input reads as it did. -/
def soundResamplesMatchSpecUptoRow : OpenClaim := { program := "ytpnbkkpbgpcgiaa", sum := "093638cf84d2cffee05144676626488c1109a8a4267a195d58b3c09c09275a17", func := "deadwax/deadwaxlaw2.SoundResamplesMatchSpec", spec := "soundResamplesMatchSpec", recurses := true, apart := false, narrowed := true }
def SoundResamplesMatchSpecUptoSaid : Prop := soundResamplesMatchSpecUptoRow.holds Try.pinned (OpenSpec.upto soundResamplesMatchSpecSpec)

/-- 'deadwaxlaw2.SoundQuantisesMatchSpec', WHERE WHAT IT READS IS OF BULK AT MOST 1048576: true; the input reads as it did. -/
def soundQuantisesMatchSpecUptoRow : OpenClaim := { program := "ytpnbkkpbgpcgiaa", sum := "093638cf84d2cffee05144676626488c1109a8a4267a195d58b3c09c09275a17", func := "deadwax/deadwaxlaw2.SoundQuantisesMatchSpec", spec := "soundQuantisesMatchSpec", unfollowed := true, recurses := true, apart := false, narrowed := true }
def SoundQuantisesMatchSpecUptoSaid : Prop := soundQuantisesMatchSpecUptoRow.holds Try.pinned (OpenSpec.upto soundQuantisesMatchSpecSpec)

/-- 'deadwaxlaw2.SoundQuantisesOnce', WHERE WHAT IT READS IS OF BULK AT MOST 1048576: true; the input reads as it did. -/
def soundQuantisesOnceUptoRow : OpenClaim := { program := "ytpnbkkpbgpcgiaa", sum := "093638cf84d2cffee05144676626488c1109a8a4267a195d58b3c09c09275a17", func := "deadwax/deadwaxlaw2.SoundQuantisesOnce", spec := "soundQuantisesOnce", unfollowed := true, recurses := true, apart := false, narrowed := true }
def SoundQuantisesOnceUptoSaid : Prop := soundQuantisesOnceUptoRow.holds Try.pinned (OpenSpec.upto soundQuantisesOnceSpec)

/-- 'deadwaxlaw2.SoundOverviewsMatchSpec', WHERE WHAT IT READS IS OF BULK AT MOST 1048576: true; the input reads as it did. -/
def soundOverviewsMatchSpecUptoRow : OpenClaim := { program := "ytpnbkkpbgpcgiaa", sum := "093638cf84d2cffee05144676626488c1109a8a4267a195d58b3c09c09275a17", func := "deadwax/deadwaxlaw2.SoundOverviewsMatchSpec", spec := "soundOverviewsMatchSpec", apart := false, narrowed := true }
def SoundOverviewsMatchSpecUptoSaid : Prop := soundOverviewsMatchSpecUptoRow.holds Try.pinned (OpenSpec.upto soundOverviewsMatchSpecSpec)

/-- 'deadwaxlaw2.SoundOverviewsCoarsen', WHERE WHAT IT READS IS OF BULK AT MOST 1048576: true; the input reads as it did. -/
def soundOverviewsCoarsenUptoRow : OpenClaim := { program := "ytpnbkkpbgpcgiaa", sum := "093638cf84d2cffee05144676626488c1109a8a4267a195d58b3c09c09275a17", func := "deadwax/deadwaxlaw2.SoundOverviewsCoarsen", spec := "soundOverviewsCoarsen", apart := false, narrowed := true }
def SoundOverviewsCoarsenUptoSaid : Prop := soundOverviewsCoarsenUptoRow.holds Try.pinned (OpenSpec.upto soundOverviewsCoarsenSpec)

/-- 'deadwaxlaw2.SoundChecksMatchSpec', WHERE WHAT IT READS IS OF BULK AT MOST 1048576: true; the input reads as it did. -/
def soundChecksMatchSpecUptoRow : OpenClaim := { program := "ytpnbkkpbgpcgiaa", sum := "093638cf84d2cffee05144676626488c1109a8a4267a195d58b3c09c09275a17", func := "deadwax/deadwaxlaw2.SoundChecksMatchSpec", spec := "soundChecksMatchSpec", unfollowed := true, recurses := true, apart := false, narrowed := true }
def SoundChecksMatchSpecUptoSaid : Prop := soundChecksMatchSpecUptoRow.holds Try.pinned (OpenSpec.upto soundChecksMatchSpecSpec)

/-- 'deadwaxlaw2.SoundFadesMatchSpec', WHERE WHAT IT READS IS OF BULK AT MOST 1048576: true; the input reads as it did. -/
def soundFadesMatchSpecUptoRow : OpenClaim := { program := "ytpnbkkpbgpcgiaa", sum := "093638cf84d2cffee05144676626488c1109a8a4267a195d58b3c09c09275a17", func := "deadwax/deadwaxlaw2.SoundFadesMatchSpec", spec := "soundFadesMatchSpec", unfollowed := true, recurses := true, apart := false, narrowed := true }
def SoundFadesMatchSpecUptoSaid : Prop := soundFadesMatchSpecUptoRow.holds Try.pinned (OpenSpec.upto soundFadesMatchSpecSpec)

/-- 'deadwaxlaw2.SoundFadesAreQuieter', WHERE WHAT IT READS IS OF BULK AT MOST 1048576: true; the input reads as it did. -/
def soundFadesAreQuieterUptoRow : OpenClaim := { program := "ytpnbkkpbgpcgiaa", sum := "093638cf84d2cffee05144676626488c1109a8a4267a195d58b3c09c09275a17", func := "deadwax/deadwaxlaw2.SoundFadesAreQuieter", spec := "soundFadesAreQuieter", unfollowed := true, recurses := true, apart := false, narrowed := true }
def SoundFadesAreQuieterUptoSaid : Prop := soundFadesAreQuieterUptoRow.holds Try.pinned (OpenSpec.upto soundFadesAreQuieterSpec)

/-- 'deadwaxlaw2.SoundPacksMatchSpec', WHERE WHAT IT READS IS OF BULK AT MOST 1048576: true; the input reads as it did. -/
def soundPacksMatchSpecUptoRow : OpenClaim := { program := "ytpnbkkpbgpcgiaa", sum := "093638cf84d2cffee05144676626488c1109a8a4267a195d58b3c09c09275a17", func := "deadwax/deadwaxlaw2.SoundPacksMatchSpec", spec := "soundPacksMatchSpec", apart := false, narrowed := true }
def SoundPacksMatchSpecUptoSaid : Prop := soundPacksMatchSpecUptoRow.holds Try.pinned (OpenSpec.upto soundPacksMatchSpecSpec)

/-- 'deadwaxlaw2.SoundPacksComeBack', WHERE WHAT IT READS IS OF BULK AT MOST 1048576: true; the input reads as it did. -/
def soundPacksComeBackUptoRow : OpenClaim := { program := "ytpnbkkpbgpcgiaa", sum := "093638cf84d2cffee05144676626488c1109a8a4267a195d58b3c09c09275a17", func := "deadwax/deadwaxlaw2.SoundPacksComeBack", spec := "soundPacksComeBack", apart := false, narrowed := true }
def SoundPacksComeBackUptoSaid : Prop := soundPacksComeBackUptoRow.holds Try.pinned (OpenSpec.upto soundPacksComeBackSpec)

/-- 'deadwaxlaw2.SoundMixesMatchSpec', WHERE WHAT IT READS IS OF BULK AT MOST 1048576: true; the input reads as it did. -/
def soundMixesMatchSpecUptoRow : OpenClaim := { program := "ytpnbkkpbgpcgiaa", sum := "093638cf84d2cffee05144676626488c1109a8a4267a195d58b3c09c09275a17", func := "deadwax/deadwaxlaw2.SoundMixesMatchSpec", spec := "soundMixesMatchSpec", apart := false, narrowed := true }
def SoundMixesMatchSpecUptoSaid : Prop := soundMixesMatchSpecUptoRow.holds Try.pinned (OpenSpec.upto soundMixesMatchSpecSpec)

/-- 'deadwaxlaw2.SoundCrossesMatchSpec', WHERE WHAT IT READS IS OF BULK AT MOST 1048576: true; the input reads as it did. -/
def soundCrossesMatchSpecUptoRow : OpenClaim := { program := "ytpnbkkpbgpcgiaa", sum := "093638cf84d2cffee05144676626488c1109a8a4267a195d58b3c09c09275a17", func := "deadwax/deadwaxlaw2.SoundCrossesMatchSpec", spec := "soundCrossesMatchSpec", recurses := true, apart := false, narrowed := true }
def SoundCrossesMatchSpecUptoSaid : Prop := soundCrossesMatchSpecUptoRow.holds Try.pinned (OpenSpec.upto soundCrossesMatchSpecSpec)

/-- 'deadwaxlaw2.SoundCutsJoin', WHERE WHAT IT READS IS OF BULK AT MOST 1048576: true; the input reads as it did. -/
def soundCutsJoinUptoRow : OpenClaim := { program := "ytpnbkkpbgpcgiaa", sum := "093638cf84d2cffee05144676626488c1109a8a4267a195d58b3c09c09275a17", func := "deadwax/deadwaxlaw2.SoundCutsJoin", spec := "soundCutsJoin", unfollowed := true, recurses := true, apart := false, narrowed := true }
def SoundCutsJoinUptoSaid : Prop := soundCutsJoinUptoRow.holds Try.pinned (OpenSpec.upto soundCutsJoinSpec)

/-- 'deadwaxlaw2.SoundCrossesKeep', WHERE WHAT IT READS IS OF BULK AT MOST 1048576: true; the input reads as it did. -/
def soundCrossesKeepUptoRow : OpenClaim := { program := "ytpnbkkpbgpcgiaa", sum := "093638cf84d2cffee05144676626488c1109a8a4267a195d58b3c09c09275a17", func := "deadwax/deadwaxlaw2.SoundCrossesKeep", spec := "soundCrossesKeep", apart := false, narrowed := true }
def SoundCrossesKeepUptoSaid : Prop := soundCrossesKeepUptoRow.holds Try.pinned (OpenSpec.upto soundCrossesKeepSpec)

end Rows
end Go.Proofs.Ytpnbkkpbgpcgiaa
