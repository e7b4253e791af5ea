/- Positions, rates and ways of rounding, of both sides. -/
import Derived.Test.YthjmhdnamhifjaaGreatDoorMem
import Derived.Test.YthjmhdnamhifjaaGreatDoorProg
set_option linter.unusedSimpArgs false
set_option linter.unusedVariables false
namespace Go.Proofs.YthjmhdnamhifjaaGreatDoor
open Go.RowKit Go.Dw
def okPos (n : Int) : Bool := decide (-10000000000000 ≤ n) && decide (n ≤ 10000000000000)
def okRate (n : Int) : Bool := decide (1 ≤ n) && decide (n ≤ 1000000)
def okWay (n : Int) : Bool := decide (1 ≤ n) && decide (n ≤ 3)
theorem okPos_le {n : Int} (h : okPos n = true) : -10000000000000 ≤ n ∧ n ≤ 10000000000000 := by unfold okPos at h; simpa using h
theorem okRate_le {n : Int} (h : okRate n = true) : 1 ≤ n ∧ n ≤ 1000000 := by unfold okRate at h; simpa using h
theorem ISPOS_any (r : Int) (w : World) : Calls Tryz.prog 39 #[.int .i64 r] w fun e w' => e = .returned (.bool (decide (-10000000000000 ≤ r) && decide (r ≤ 10000000000000))) ∧ w = w' := by
  by_cases h1 : -10000000000000 ≤ r
  · by_cases h2 : r ≤ 10000000000000
    · go_enter Tryz.func39, Tryz.ntmps39
      go_wp2_with fail
      go_ret
      exact ⟨by simp [h1, h2], rfl⟩
    · go_enter Tryz.func39, Tryz.ntmps39
      go_wp2_with fail
      go_ret
      exact ⟨by simp [h1, h2], rfl⟩
  · go_enter Tryz.func39, Tryz.ntmps39
    go_wp2_with fail
    go_ret
    exact ⟨by rw [show decide (-10000000000000 ≤ r) = false by simpa using h1, Bool.false_and]; rfl, rfl⟩
theorem ISRATE_any (r : Int) (w : World) : Calls Tryz.prog 42 #[.int .i64 r] w fun e w' => e = .returned (.bool (decide (1 ≤ r) && decide (r ≤ 1000000))) ∧ w = w' := by
  by_cases h1 : 1 ≤ r
  · by_cases h2 : r ≤ 1000000
    · go_enter Tryz.func42, Tryz.ntmps42
      go_wp2_with fail
      go_ret
      exact ⟨by simp [h1, h2], rfl⟩
    · go_enter Tryz.func42, Tryz.ntmps42
      go_wp2_with fail
      go_ret
      exact ⟨by simp [h1, h2], rfl⟩
  · go_enter Tryz.func42, Tryz.ntmps42
    go_wp2_with fail
    go_ret
    exact ⟨by rw [show decide (1 ≤ r) = false by simpa using h1, Bool.false_and]; rfl, rfl⟩
theorem ISWAY_any (r : Int) (w : World) : Calls Tryz.prog 47 #[.int .i64 r] w fun e w' => e = .returned (.bool (decide (1 ≤ r) && decide (r ≤ 3))) ∧ w = w' := by
  by_cases h1 : 1 ≤ r
  · by_cases h2 : r ≤ 3
    · go_enter Tryz.func47, Tryz.ntmps47
      go_wp2_with fail
      go_ret
      exact ⟨by simp [h1, h2], rfl⟩
    · go_enter Tryz.func47, Tryz.ntmps47
      go_wp2_with fail
      go_ret
      exact ⟨by simp [h1, h2], rfl⟩
  · go_enter Tryz.func47, Tryz.ntmps47
    go_wp2_with fail
    go_ret
    exact ⟨by rw [show decide (1 ≤ r) = false by simpa using h1, Bool.false_and]; rfl, rfl⟩
theorem RPOSITION_any (r : Int) (w : World) : Calls Tryz.prog 41 #[.int .i64 r] w fun e w' => e = .returned (.bool (decide (-10000000000000 ≤ r) && decide (r ≤ 10000000000000))) ∧ w = w' := by
  by_cases h1 : -10000000000000 ≤ r
  · by_cases h2 : r ≤ 10000000000000
    · go_enter Tryz.func41, Tryz.ntmps41
      go_wp2_with fail
      go_ret
      exact ⟨by simp [h1, h2], rfl⟩
    · go_enter Tryz.func41, Tryz.ntmps41
      go_wp2_with fail
      go_ret
      exact ⟨by simp [h1, h2], rfl⟩
  · go_enter Tryz.func41, Tryz.ntmps41
    go_wp2_with fail
    go_ret
    exact ⟨by rw [show decide (-10000000000000 ≤ r) = false by simpa using h1, Bool.false_and]; rfl, rfl⟩
theorem RISRATE_any (r : Int) (w : World) : Calls Tryz.prog 45 #[.int .i64 r] w fun e w' => e = .returned (.bool (decide (1 ≤ r) && decide (r ≤ 1000000))) ∧ w = w' := by
  by_cases h1 : 1 ≤ r
  · by_cases h2 : r ≤ 1000000
    · go_enter Tryz.func45, Tryz.ntmps45
      go_wp2_with fail
      go_ret
      exact ⟨by simp [h1, h2], rfl⟩
    · go_enter Tryz.func45, Tryz.ntmps45
      go_wp2_with fail
      go_ret
      exact ⟨by simp [h1, h2], rfl⟩
  · go_enter Tryz.func45, Tryz.ntmps45
    go_wp2_with fail
    go_ret
    exact ⟨by rw [show decide (1 ≤ r) = false by simpa using h1, Bool.false_and]; rfl, rfl⟩
theorem RWAY_any (r : Int) (w : World) : Calls Tryz.prog 52 #[.int .i64 r] w fun e w' => e = .returned (.bool (decide (1 ≤ r) && decide (r ≤ 3))) ∧ w = w' := by
  by_cases h1 : r = 1
  · subst h1
    go_enter Tryz.func52, Tryz.ntmps52
    go_wp2_with fail
    go_ret
    exact ⟨rfl, rfl⟩
  by_cases h2 : r = 2
  · subst h2
    go_enter Tryz.func52, Tryz.ntmps52
    go_wp2_with fail
    go_ret
    exact ⟨rfl, rfl⟩
  by_cases h3 : r = 3
  · subst h3
    go_enter Tryz.func52, Tryz.ntmps52
    go_wp2_with fail
    go_ret
    exact ⟨rfl, rfl⟩
  · have k1 : (r == 1) = false := by simpa using h1
    have k2 : (r == 2) = false := by simpa using h2
    have k3 : (r == 3) = false := by simpa using h3
    have HF : Hid ((decide (1 ≤ r) && decide (r ≤ 3)) = false) := by show _ = _; rw [← Bool.decide_and]; exact decide_eq_false (by omega)
    clear h1 h2 h3
    go_enter Tryz.func52, Tryz.ntmps52
    go_wp2_with fail
    go_ret
    exact ⟨by rw [HF.out]; rfl, rfl⟩
end Go.Proofs.YthjmhdnamhifjaaGreatDoor
