/- isShape, factor, on both sides. -/
import Derived.Test.YtpnbkkpbgpcgiaaCheck
import Derived.Test.YtpnbkkpbgpcgiaaSpecF
set_option linter.unusedSimpArgs false
set_option linter.unusedVariables false
namespace Go.Proofs.Ytpnbkkpbgpcgiaa
open Go.RowKit Go.Dw
set_option maxHeartbeats 400000 in
theorem ISSHAPE_eq (a : Int) (b : Bool) (hb : Hid (shB a = b)) (w : World) :
    Calls Try.prog 78 #[.int .i64 a] w fun e w' => e = .returned (.bool b) ∧ w = w' := by
  have hb' := hb.out
  clear hb
  by_cases h1 : 1 ≤ a
  · by_cases h2 : a ≤ 3
    · go_enter Try.func78, Try.ntmps78
      go_wp2
      go_ret
      exact ⟨ret_bool (by rw [← hb']; simp [shB, h1, h2]), rfl⟩
    · go_enter Try.func78, Try.ntmps78
      go_wp2
      go_ret
      exact ⟨ret_bool (by rw [← hb']; simp [shB, h1, h2]), rfl⟩
  · go_enter Try.func78, Try.ntmps78
    go_wp2
    go_ret
    exact ⟨ret_bool (by rw [← hb']; simp [shB]; omega), rfl⟩
set_option maxHeartbeats 400000 in
theorem RISSHAPE_eq (a : Int) (b : Bool) (hb : Hid (shB a = b)) (w : World) :
    Calls Try.prog 81 #[.int .i64 a] w fun e w' => e = .returned (.bool b) ∧ w = w' := by
  have hb' := hb.out
  clear hb
  by_cases h1 : a = 1
  · subst h1
    go_enter Try.func81, Try.ntmps81
    go_wp2
    go_ret
    exact ⟨ret_bool (by rw [← hb']; rfl), rfl⟩
  · have e1 : (a == 1) = false := by simpa using h1
    by_cases h2 : a = 2
    · subst h2
      go_enter Try.func81, Try.ntmps81
      go_wp2
      go_ret
      exact ⟨ret_bool (by rw [← hb']; rfl), rfl⟩
    · have e2 : (a == 2) = false := by simpa using h2
      by_cases h3 : a = 3
      · subst h3
        go_enter Try.func81, Try.ntmps81
        go_wp2
        go_ret
        exact ⟨ret_bool (by rw [← hb']; rfl), rfl⟩
      · have e3 : (a == 3) = false := by simpa using h3
        go_enter Try.func81, Try.ntmps81
        go_wp2
        go_ret
        exact ⟨ret_bool (by rw [← hb']; simp [shB]; omega), rfl⟩
set_option maxHeartbeats 400000 in
theorem FACTOR_any (sh k n : Int) (h0 : 0 ≤ k) (h1 : k < n) (h2 : n ≤ 100000) (w : World) :
    Calls Try.prog 80 #[.int .i64 sh, .int .i64 k, .int .i64 n] w fun e w' => e = .returned (.int .i64 (facS sh k n)) ∧ w = w' := by
  obtain ⟨b1, b2, b3, b4, b5, b6, b7, b8, b9, b10⟩ := facS_bd (sh := sh) h0 h1 h2
  by_cases h1 : sh = 1
  · subst h1
    have hw : wrap64 ((k + 1) * (n + 1)) = (k + 1) * (n + 1) := IntWalk.wrap64_in _ ⟨by omega, by omega⟩
    go_enter Try.func80, Try.ntmps80
    go_wp2
    go_ret
    exact ⟨rfl, rfl⟩
  · have e1 : (sh == 1) = false := by simpa using h1
    by_cases h2 : sh = 2
    · subst h2
      have hw : wrap64 ((k + 1) * (k + 1)) = (k + 1) * (k + 1) := IntWalk.wrap64_in _ ⟨by omega, by omega⟩
      go_enter Try.func80, Try.ntmps80
      go_wp2
      go_ret
      exact ⟨rfl, rfl⟩
    · have e2 : (sh == 2) = false := by simpa using h2
      have hf : Hid (facS sh k n = (n + 1) * (n + 1) - (n - k) * (n - k)) := by show _ = _; unfold facS; rw [if_neg h1, if_neg h2]
      have hw1 : wrap64 ((n + 1) * (n + 1)) = (n + 1) * (n + 1) := IntWalk.wrap64_in _ ⟨by omega, by omega⟩
      have hw2 : wrap64 ((n - k) * (n - k)) = (n - k) * (n - k) := IntWalk.wrap64_in _ ⟨by omega, by omega⟩
      have hw3 : wrap64 ((n + 1) * (n + 1) - (n - k) * (n - k)) = (n + 1) * (n + 1) - (n - k) * (n - k) := IntWalk.wrap64_in _ ⟨by omega, by omega⟩
      clear h1 h2
      go_enter Try.func80, Try.ntmps80
      go_wp2
      go_ret
      exact ⟨ret_int hf.out.symm, rfl⟩
set_option maxHeartbeats 400000 in
theorem RFACTOR_any (sh k n : Int) (h0 : 0 ≤ k) (h1 : k < n) (h2 : n ≤ 100000) (w : World) :
    Calls Try.prog 82 #[.int .i64 sh, .int .i64 k, .int .i64 n] w fun e w' => e = .returned (.int .i64 (facS sh k n)) ∧ w = w' := by
  obtain ⟨b1, b2, b3, b4, b5, b6, b7, b8, b9, b10⟩ := facS_bd (sh := sh) h0 h1 h2
  by_cases h1 : sh = 1
  · subst h1
    have hw : wrap64 ((k + 1) * (n + 1)) = (k + 1) * (n + 1) := IntWalk.wrap64_in _ ⟨by omega, by omega⟩
    go_enter Try.func82, Try.ntmps82
    go_wp2
    go_ret
    exact ⟨rfl, rfl⟩
  · have e1 : (sh == 1) = false := by simpa using h1
    by_cases h2 : sh = 2
    · subst h2
      have hw : wrap64 ((k + 1) * (k + 1)) = (k + 1) * (k + 1) := IntWalk.wrap64_in _ ⟨by omega, by omega⟩
      go_enter Try.func82, Try.ntmps82
      go_wp2
      go_ret
      exact ⟨rfl, rfl⟩
    · have e2 : (sh == 2) = false := by simpa using h2
      have hf : Hid (facS sh k n = (n + 1) * (n + 1) - (n - k) * (n - k)) := by show _ = _; unfold facS; rw [if_neg h1, if_neg h2]
      have hw1 : wrap64 ((n + 1) * (n + 1)) = (n + 1) * (n + 1) := IntWalk.wrap64_in _ ⟨by omega, by omega⟩
      have hw2 : wrap64 ((n - k) * (n - k)) = (n - k) * (n - k) := IntWalk.wrap64_in _ ⟨by omega, by omega⟩
      have hw3 : wrap64 ((n + 1) * (n + 1) - (n - k) * (n - k)) = (n + 1) * (n + 1) - (n - k) * (n - k) := IntWalk.wrap64_in _ ⟨by omega, by omega⟩
      clear h1 h2
      go_enter Try.func82, Try.ntmps82
      go_wp2
      go_ret
      exact ⟨ret_int hf.out.symm, rfl⟩
end Go.Proofs.Ytpnbkkpbgpcgiaa
