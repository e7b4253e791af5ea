/- near on both sides: nearI. -/
import Derived.Test.YtpnbkkpbgpcgiaaCheck
import Derived.Deep.QuietTactic
import Derived.BigQuiet
set_option linter.unusedSimpArgs false
set_option linter.unusedVariables false
namespace Go.Proofs.Ytpnbkkpbgpcgiaa
open Go.RowKit Go.Dw

set_option maxHeartbeats 400000 in
theorem NEAR_any (a b : Int) (hb : 1 ≤ b) (hb2 : b ≤ 1000000000000000000) (ha1 : -1000000000000000000 ≤ a) (ha2 : a ≤ 1000000000000000000) (w : World) :
    Calls Try.prog 60 #[.int .i64 a, .int .i64 b] w fun e w' => e = .returned (.int .i64 (nearI a b)) ∧ w = w' := by
  by_cases h : a < 0
  · have hn := nearP_bd (a := -a) (b := b) (by omega) (by omega)
    unfold nearP at hn
    rw [show 2 * -a + b = -2 * a + b by omega] at hn
    have h1 := hn.1
    have h2 : (-2 * a + b) / (2 * b) ≤ 1000000000000000000 := by omega
    have HE : Hid (nearI a b = -((-2 * a + b) / (2 * b))) := by
      show _ = _
      unfold nearI nearP
      rw [if_pos h, show 2 * -a + b = -2 * a + b by omega]
    clear hn
    go_enter Try.func60, Try.ntmps60
    go_wp2
    go_ret
    exact ⟨ret_int (by rw [HE.out]), rfl⟩
  · have HE : Hid (nearI a b = (2 * a + b) / (2 * b)) := by
      show _ = _
      unfold nearI nearP
      rw [if_neg h]
    go_enter Try.func60, Try.ntmps60
    go_wp2
    go_ret
    exact ⟨ret_int (by rw [HE.out]), rfl⟩

set_option maxHeartbeats 400000 in
theorem RNEAR_pos (a b : Int) (hb : 1 ≤ b) (hb2 : b ≤ 1000000000000000000) (ha1 : 0 ≤ a) (ha2 : a ≤ 1000000000000000000) (w : World) :
    Calls Try.prog 68 #[.int .i64 a, .int .i64 b] w fun e w' => e = .returned (.int .i64 (nearP a b)) ∧ ∃ q, w' = w.drewN q := by
  have hs := Lib.hid (nearP_split ha1 (show 0 < b by omega))
  have h2 := Int.emod_nonneg a (show b ≠ 0 by omega)
  have h3 := Int.emod_lt_of_pos a (show 0 < b by omega)
  have h4 : 0 ≤ a / b := Int.ediv_nonneg ha1 (by omega)
  have h5 : a / b ≤ a := Int.ediv_le_self _ ha1
  have hb0 : ¬ b = 0 := by omega
  by_cases h : b - a % b ≤ a % b
  · go_enter Try.func68, Try.ntmps68
    go_wp2_with fail
    go_quiet (fail)
    go_wp2_with fail
    go_ret
    exact ⟨ret_int (by rw [hs.out, if_pos h]), _, rfl⟩
  · go_enter Try.func68, Try.ntmps68
    go_wp2_with fail
    go_quiet (fail)
    go_wp2_with fail
    go_ret
    exact ⟨ret_int (by rw [hs.out, if_neg (by omega)]), _, rfl⟩
set_option maxHeartbeats 400000 in
theorem RNEAR_any (a b : Int) (hb : 1 ≤ b) (hb2 : b ≤ 1000000000000000000) (ha1 : -1000000000000000000 ≤ a) (ha2 : a ≤ 1000000000000000000) (w : World) :
    Calls Try.prog 68 #[.int .i64 a, .int .i64 b] w fun e w' => e = .returned (.int .i64 (nearI a b)) ∧ ∃ q, w' = w.drewN q := by
  by_cases h : a < 0
  · have hn := nearP_bd (a := -a) (b := b) (by omega) (by omega)
    have h1 := hn.1
    have h2 : nearP (-a) b ≤ 1000000000000000000 := by omega
    have HE : Hid (nearI a b = -nearP (-a) b) := if_pos h
    clear hn
    go_enter Try.func68, Try.ntmps68
    go_wp2_with fail
    refine (RNEAR_pos (-a) b hb hb2 (by omega) (by omega) _).mono ?_
    rintro e w' ⟨rfl, q, rfl⟩
    go_wp2_with fail
    go_ret
    exact ⟨ret_int (by rw [HE.out]), _, rfl⟩
  · exact (RNEAR_pos a b hb hb2 (by omega) ha2 w).mono fun e w' he => ⟨he.1.trans (ret_int (by unfold nearI; rw [if_neg h])), he.2⟩
end Go.Proofs.Ytpnbkkpbgpcgiaa
