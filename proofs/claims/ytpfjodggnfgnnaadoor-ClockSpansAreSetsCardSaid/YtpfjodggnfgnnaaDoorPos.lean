/- Positions, rates and ways of rounding, of both sides. -/
import Derived.Test.YtpfjodggnfgnnaaDoorMem
import Derived.Test.YtpfjodggnfgnnaaDoorProg
set_option linter.unusedSimpArgs false
set_option linter.unusedVariables false
namespace Go.Proofs.YtpfjodggnfgnnaaDoor
open Go.RowKit Go.Dw
def okPos (n : Int) : Bool := decide (-10000000000000 ≤ n) && decide (n ≤ 10000000000000)
def okRate (n : Int) : Bool := decide (1 ≤ n) && decide (n ≤ 1000000)
def okWay (n : Int) : Bool := decide (1 ≤ n) && decide (n ≤ 3)
theorem okPos_le {n : Int} (h : okPos n = true) : -10000000000000 ≤ n ∧ n ≤ 10000000000000 := by unfold okPos at h; simpa using h
theorem okRate_le {n : Int} (h : okRate n = true) : 1 ≤ n ∧ n ≤ 1000000 := by unfold okRate at h; simpa using h
theorem ISPOS_any (r : Int) (w : World) : Calls Tryd.prog 37 #[.int .i64 r] w fun e w' => e = .returned (.bool (decide (-10000000000000 ≤ r) && decide (r ≤ 10000000000000))) ∧ w = w' := by
  by_cases h1 : -10000000000000 ≤ r
  · by_cases h2 : r ≤ 10000000000000
    · go_enter Tryd.func37, Tryd.ntmps37
      go_wp2_with fail
      go_ret
      exact ⟨by simp [h1, h2], rfl⟩
    · go_enter Tryd.func37, Tryd.ntmps37
      go_wp2_with fail
      go_ret
      exact ⟨by simp [h1, h2], rfl⟩
  · go_enter Tryd.func37, Tryd.ntmps37
    go_wp2_with fail
    go_ret
    exact ⟨by rw [show decide (-10000000000000 ≤ r) = false by simpa using h1, Bool.false_and]; rfl, rfl⟩
theorem ISRATE_any (r : Int) (w : World) : Calls Tryd.prog 69 #[.int .i64 r] w fun e w' => e = .returned (.bool (decide (1 ≤ r) && decide (r ≤ 1000000))) ∧ w = w' := by
  by_cases h1 : 1 ≤ r
  · by_cases h2 : r ≤ 1000000
    · go_enter Tryd.func69, Tryd.ntmps69
      go_wp2_with fail
      go_ret
      exact ⟨by simp [h1, h2], rfl⟩
    · go_enter Tryd.func69, Tryd.ntmps69
      go_wp2_with fail
      go_ret
      exact ⟨by simp [h1, h2], rfl⟩
  · go_enter Tryd.func69, Tryd.ntmps69
    go_wp2_with fail
    go_ret
    exact ⟨by rw [show decide (1 ≤ r) = false by simpa using h1, Bool.false_and]; rfl, rfl⟩
theorem ISWAY_any (r : Int) (w : World) : Calls Tryd.prog 95 #[.int .i64 r] w fun e w' => e = .returned (.bool (decide (1 ≤ r) && decide (r ≤ 3))) ∧ w = w' := by
  by_cases h1 : 1 ≤ r
  · by_cases h2 : r ≤ 3
    · go_enter Tryd.func95, Tryd.ntmps95
      go_wp2_with fail
      go_ret
      exact ⟨by simp [h1, h2], rfl⟩
    · go_enter Tryd.func95, Tryd.ntmps95
      go_wp2_with fail
      go_ret
      exact ⟨by simp [h1, h2], rfl⟩
  · go_enter Tryd.func95, Tryd.ntmps95
    go_wp2_with fail
    go_ret
    exact ⟨by rw [show decide (1 ≤ r) = false by simpa using h1, Bool.false_and]; rfl, rfl⟩
theorem RPOSITION_any (r : Int) (w : World) : Calls Tryd.prog 38 #[.int .i64 r] w fun e w' => e = .returned (.bool (decide (-10000000000000 ≤ r) && decide (r ≤ 10000000000000))) ∧ w = w' := by
  by_cases h1 : -10000000000000 ≤ r
  · by_cases h2 : r ≤ 10000000000000
    · go_enter Tryd.func38, Tryd.ntmps38
      go_wp2_with fail
      go_ret
      exact ⟨by simp [h1, h2], rfl⟩
    · go_enter Tryd.func38, Tryd.ntmps38
      go_wp2_with fail
      go_ret
      exact ⟨by simp [h1, h2], rfl⟩
  · go_enter Tryd.func38, Tryd.ntmps38
    go_wp2_with fail
    go_ret
    exact ⟨by rw [show decide (-10000000000000 ≤ r) = false by simpa using h1, Bool.false_and]; rfl, rfl⟩
end Go.Proofs.YtpfjodggnfgnnaaDoor
