/- The plain functions of chapter 2, continued: what is filled element by element; Resample. No program in sight. -/
import Derived.Test.YtkmcohnhanphdaaGreatDoorXa
set_option linter.unusedSimpArgs false
set_option linter.unusedVariables false
namespace Go.Dw
end Go.Dw
/- The plain functions of chapter 2, continued: Resample at a rate several times as great; Quantise. No program in sight. -/
namespace Go.Dw
end Go.Dw
/- The plain functions of chapter 2, continued: turning around. No program in sight. -/
namespace Go.Dw
end Go.Dw
/- The plain functions of chapter 2, continued: Fade. No program in sight. -/
namespace Go.Dw
end Go.Dw
/- The plain functions of chapter 2, continued: clipping; Mix. No program in sight. -/
namespace Go.Dw
def clipV (x : Int) : Int := if 8388607 < x then 8388607 else if x < -8388608 then -8388608 else x
def clipN (x : Int) : Int := if 8388607 < x then 1 else if x < -8388608 then 1 else 0
theorem clipN_bd (x : Int) : 0 ≤ clipN x ∧ clipN x ≤ 1 := by unfold clipN; (repeat' split) <;> omega
end Go.Dw
