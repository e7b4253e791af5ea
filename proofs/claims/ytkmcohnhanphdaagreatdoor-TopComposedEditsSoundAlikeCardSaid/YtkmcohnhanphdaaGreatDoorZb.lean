/- Positions, rates and ways of rounding, of both sides. -/
import Derived.Test.YtkmcohnhanphdaaGreatDoorXa
import Derived.Test.YtkmcohnhanphdaaGreatDoorProg
import Derived.Test.YtkmcohnhanphdaaGreatDoorZa
import Derived.BigQuiet
set_option linter.unusedSimpArgs false
set_option linter.unusedVariables false
namespace Go.Proofs.YtkmcohnhanphdaaGreatDoor
open Go.RowKit Go.Dw
def okPos (n : Int) : Bool := decide (-10000000000000 ≤ n) && decide (n ≤ 10000000000000)
def okRate (n : Int) : Bool := decide (1 ≤ n) && decide (n ≤ 1000000)
def okWay (n : Int) : Bool := decide (1 ≤ n) && decide (n ≤ 3)
theorem okPos_le {n : Int} (h : okPos n = true) : -10000000000000 ≤ n ∧ n ≤ 10000000000000 := by unfold okPos at h; simpa using h
theorem okRate_le {n : Int} (h : okRate n = true) : 1 ≤ n ∧ n ≤ 1000000 := by unfold okRate at h; simpa using h
theorem ISPOS_any (r : Int) (w : World) : Calls Tryz.prog 58 #[.int .i64 r] w fun e w' => e = .returned (.bool (decide (-10000000000000 ≤ r) && decide (r ≤ 10000000000000))) ∧ w = w' := by
  by_cases h1 : -10000000000000 ≤ r
  · by_cases h2 : r ≤ 10000000000000
    · go_enter Tryz.func58, Tryz.ntmps58
      go_wp2_with fail
      go_ret
      exact ⟨by simp [h1, h2], rfl⟩
    · go_enter Tryz.func58, Tryz.ntmps58
      go_wp2_with fail
      go_ret
      exact ⟨by simp [h1, h2], rfl⟩
  · go_enter Tryz.func58, Tryz.ntmps58
    go_wp2_with fail
    go_ret
    exact ⟨by rw [show decide (-10000000000000 ≤ r) = false by simpa using h1, Bool.false_and]; rfl, rfl⟩
theorem ISRATE_any (r : Int) (w : World) : Calls Tryz.prog 39 #[.int .i64 r] w fun e w' => e = .returned (.bool (decide (1 ≤ r) && decide (r ≤ 1000000))) ∧ w = w' := by
  by_cases h1 : 1 ≤ r
  · by_cases h2 : r ≤ 1000000
    · go_enter Tryz.func39, Tryz.ntmps39
      go_wp2_with fail
      go_ret
      exact ⟨by simp [h1, h2], rfl⟩
    · go_enter Tryz.func39, Tryz.ntmps39
      go_wp2_with fail
      go_ret
      exact ⟨by simp [h1, h2], rfl⟩
  · go_enter Tryz.func39, Tryz.ntmps39
    go_wp2_with fail
    go_ret
    exact ⟨by rw [show decide (1 ≤ r) = false by simpa using h1, Bool.false_and]; rfl, rfl⟩
theorem ISWAY_any (r : Int) (w : World) : Calls Tryz.prog 59 #[.int .i64 r] w fun e w' => e = .returned (.bool (decide (1 ≤ r) && decide (r ≤ 3))) ∧ w = w' := by
  by_cases h1 : 1 ≤ r
  · by_cases h2 : r ≤ 3
    · go_enter Tryz.func59, Tryz.ntmps59
      go_wp2_with fail
      go_ret
      exact ⟨by simp [h1, h2], rfl⟩
    · go_enter Tryz.func59, Tryz.ntmps59
      go_wp2_with fail
      go_ret
      exact ⟨by simp [h1, h2], rfl⟩
  · go_enter Tryz.func59, Tryz.ntmps59
    go_wp2_with fail
    go_ret
    exact ⟨by rw [show decide (1 ≤ r) = false by simpa using h1, Bool.false_and]; rfl, rfl⟩
end Go.Proofs.YtkmcohnhanphdaaGreatDoor
/- CheckPairs and CheckSpans, of both sides. -/
namespace Go.Proofs.YtkmcohnhanphdaaGreatDoor
open Go.RowKit Go.Dw
end Go.Proofs.YtkmcohnhanphdaaGreatDoor
/- Turned, of both sides. -/
namespace Go.Proofs.YtkmcohnhanphdaaGreatDoor
open Go.RowKit Go.Dw
end Go.Proofs.YtkmcohnhanphdaaGreatDoor
/- Moved, of both sides. -/
namespace Go.Proofs.YtkmcohnhanphdaaGreatDoor
open Go.RowKit Go.Dw
end Go.Proofs.YtkmcohnhanphdaaGreatDoor
/- Outward, of both sides. -/
namespace Go.Proofs.YtkmcohnhanphdaaGreatDoor
open Go.RowKit Go.Dw
end Go.Proofs.YtkmcohnhanphdaaGreatDoor
