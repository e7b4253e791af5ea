/- FromBytes, of the document. -/
import Derived.Test.YtlnjildkdmeflaaDoorYrh
import Derived.Test.YtlnjildkdmeflaaDoorYri
set_option linter.unusedSimpArgs false
set_option linter.unusedVariables false
namespace Go.Proofs.YtlnjildkdmeflaaDoor
open Go.RowKit Go.Dw
theorem RFROMBYTES_any (A0 : Option Addr) (n c0 : Nat) (b : By) (hc0 : n ≤ c0 ∧ c0 ≤ maxLen) (w : World) (B : Nat) (hB : B ≤ w.heap.size) (hh : Hid (BysAt w B A0 n b)) (m9 : Int) (hmN : 0 < w.heap.size) (hm9 : Hid (w.cell? ⟨0, 0, none⟩ = some (.int .i64 m9))) :
    Calls Tryd.prog 8 #[.slice A0 n c0] w (OutFB w (fbS b)) := by
  cases hf : formOk (ckOf (placedS b).1.1 0).2 with
  | false => exact RFROMBYTES_bad A0 n c0 b hc0 w B hB hh m9 hmN hm9 hf
  | true =>
    obtain ⟨_, h1⟩ := formOk_in hf
    obtain ⟨_, _, _, h2, _⟩ := formG_in h1
    rcases h2 with h2 | h2
    · exact RFROMBYTES_16 A0 n c0 b hc0 w B hB hh m9 hmN hm9 ⟨hf, h2⟩
    · exact RFROMBYTES_24 A0 n c0 b hc0 w B hB hh m9 hmN hm9 ⟨hf, h2⟩
end Go.Proofs.YtlnjildkdmeflaaDoor
