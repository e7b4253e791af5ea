/- Clip, at (the document's); the clipper's at (the sound's). -/
import Derived.Test.YtpnbkkpbgpcgiaaCheck
import Derived.Test.YtpnbkkpbgpcgiaaMix0
import Derived.OneCell
set_option linter.unusedSimpArgs false
set_option linter.unusedVariables false
namespace Go.Proofs.Ytpnbkkpbgpcgiaa
open Go.RowKit Go.Dw
set_option maxHeartbeats 400000 in
theorem RCLIP_any (x : Int) (w : World) : Calls Try.prog 94 #[.int .i64 x] w fun e w' => e = .returned (.tuple #[.int .i64 (clipV x), .int .i64 (clipN x)]) ∧ w = w' := by
  by_cases h1 : 8388607 < x
  · have e1 : Hid (clipV x = 8388607 ∧ clipN x = 1) := ⟨if_pos h1, if_pos h1⟩
    go_enter Try.func94, Try.ntmps94
    go_wp2
    go_ret2
    exact ⟨by rw [e1.out.1, e1.out.2]; rfl, rfl⟩
  · by_cases h2 : x < -8388608
    · have e1 : Hid (clipV x = -8388608 ∧ clipN x = 1) := by constructor <;> (first | unfold clipV | unfold clipN) <;> rw [if_neg h1, if_pos h2]
      go_enter Try.func94, Try.ntmps94
      go_wp2
      go_ret2
      exact ⟨by rw [e1.out.1, e1.out.2]; rfl, rfl⟩
    · have e1 : Hid (clipV x = x ∧ clipN x = 0) := by constructor <;> (first | unfold clipV | unfold clipN) <;> rw [if_neg h1, if_neg h2]
      go_enter Try.func94, Try.ntmps94
      go_wp2
      go_ret2
      exact ⟨by rw [e1.out.1, e1.out.2]; rfl, rfl⟩
set_option maxHeartbeats 400000 in
theorem RAT_any (A : Option Addr) (n c : Nat) (i : Nat) (xs : List Int) (w : World) (B : Nat) (hc : n ≤ c) (hc2 : n ≤ 9223372036854775807) (h : IntsAt w B A n xs) : Calls Try.prog 95 #[.slice A n c, .int .i64 i] w fun e w' => e = .returned (.int .i64 (elOf xs i)) ∧ w = w' := by
  by_cases hi : i < n
  · obtain ⟨ad, rfl⟩ := h.addr (by omega)
    have hcell := (h.at_ hi).2
    have hi0 : (0 : Int) ≤ (i : Int) := by omega
    have hin : (i : Int) < (n : Int) := by omega
    clear h
    go_enter Try.func95, Try.ntmps95
    go_wp2
    go_ret
    exact ⟨rfl, rfl⟩
  · have hin : ¬ (i : Int) < (n : Int) := by omega
    have e : Hid (elOf xs i = 0) := elOf_ge (by have := h.1; omega)
    clear h
    go_enter Try.func95, Try.ntmps95
    go_wp2
    go_ret
    exact ⟨ret_int e.out.symm, rfl⟩
end Go.Proofs.Ytpnbkkpbgpcgiaa
