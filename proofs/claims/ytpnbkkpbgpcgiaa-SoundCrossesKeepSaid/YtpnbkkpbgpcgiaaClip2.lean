/- The clipper's at. -/
import Derived.Test.YtpnbkkpbgpcgiaaClip
set_option linter.unusedSimpArgs false
set_option linter.unusedVariables false
namespace Go.Proofs.Ytpnbkkpbgpcgiaa
open Go.RowKit Go.Dw
set_option maxHeartbeats 400000 in
theorem CLIPAT_any (x c : Int) (g : Nat) (hc0 : 0 ≤ c) (hc1 : c ≤ 1000000000) (w : World) (h : Hid (w.heap[g]? = some (.cells #[.int .i64 c] 95 (0, 0)))) :
    Calls Try.prog 91 #[.pointer (some ⟨g, 0, none⟩), .int .i64 x] w fun e w' => e = .returned (.int .i64 (clipV x)) ∧ w'.heap[g]? = some (.cells #[.int .i64 (c + clipN x)] 95 (0, 0)) ∧ w.grownBy w' (some g) := by
  have hg : ∀ u : Value, w.grownBy (w.setCell ⟨g, 0, none⟩ u) (some g) := fun u => ⟨rfl, rfl, rfl, by simp [World.setCell], fun i hi hne => Below.heap_setCell _ _ _ _ (by simpa using fun e => hne (by rw [e]))⟩
  have HG := Lib.hid hg
  have hcell := cell_of_one h.out
  have hfz := free_of_one h.out
  clear hg
  by_cases h1 : 8388607 < x
  · have e1 : Hid (clipV x = 8388607 ∧ clipN x = 1) := ⟨if_pos h1, if_pos h1⟩
    go_enter Try.func91, Try.ntmps91
    go_wp2
    go_ret
    exact ⟨by rw [e1.out.1]; rfl, by rw [e1.out.2]; exact one_setCell h.out, HG.out _⟩
  · by_cases h2 : x < -8388608
    · have e1 : Hid (clipV x = -8388608 ∧ clipN x = 1) := by constructor <;> (first | unfold clipV | unfold clipN) <;> rw [if_neg h1, if_pos h2]
      go_enter Try.func91, Try.ntmps91
      go_wp2
      go_ret
      exact ⟨by rw [e1.out.1]; rfl, by rw [e1.out.2]; exact one_setCell h.out, HG.out _⟩
    · have e1 : Hid (clipV x = x ∧ clipN x = 0) := by constructor <;> (first | unfold clipV | unfold clipN) <;> rw [if_neg h1, if_neg h2]
      go_enter Try.func91, Try.ntmps91
      go_wp2
      go_ret
      exact ⟨by rw [e1.out.1]; rfl, by rw [e1.out.2, Int.add_zero]; exact h.out, World.grownBy.refl _ _⟩
end Go.Proofs.Ytpnbkkpbgpcgiaa
