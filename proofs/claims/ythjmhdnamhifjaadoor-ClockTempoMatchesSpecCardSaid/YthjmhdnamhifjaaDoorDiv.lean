/- math/bits.Div64 where the divisor is 960000000. -/
import Derived.Test.YthjmhdnamhifjaaDoorTickS
import Derived.Test.YthjmhdnamhifjaaDoorShelf
import Derived.WalkKit
import Derived.WalkSpells
import Derived.WalkLawsBesides
import Derived.Lib.Hide
import Derived.IntWalk
import Derived.PlainAid
import Derived.Laws.BitsAllLaws
import Derived.Deep.QuietTactic
import Derived.Deep.Cut
import Derived.RegionTactic
import Derived.BigRegion
set_option linter.unusedSimpArgs false
set_option linter.unusedVariables false
namespace Go.Proofs.YthjmhdnamhifjaaDoor
open Go.RowKit
theorem bitLen_beat : Lib.bitLen (960000000 : Int).toNat = 30 := by decide
theorem LZ64_beat (w : World) : Calls Tryd.prog 68 #[.int .u64 960000000] w fun e w' => e = .returned (.int .i64 34) ∧ w = w' := by
  refine (Tryd.bits_LeadingZeros64 960000000 w (by omega) (by omega)).mono ?_
  rintro e w' ⟨rfl, rfl⟩
  refine ⟨?_, rfl⟩
  rw [bitLen_beat]; rfl
set_option maxRecDepth 100000 in
set_option maxHeartbeats 1600000 in
theorem DIV64_low (lo : Nat) (hl : lo < 18446744073709551616) (w : World) : Calls Tryd.prog 36 #[.int .u64 0, .int .u64 lo, .int .u64 960000000] w fun e w' => e = .returned (.tuple #[.int .u64 (lo / 960000000 : Nat), .int .u64 (lo % 960000000 : Nat)]) ∧ ∃ q, w' = w.drewN q := by
  go_enter Tryd.func36, Tryd.ntmps36
  go_wp2_with fail
  go_quiet (fail)
  go_wp2_with fail
  go_ret2
  refine ⟨?_, _, rfl⟩
  rw [show ((lo / 960000000 : Nat) : Int) = (lo : Int) / 960000000 by omega, show ((lo % 960000000 : Nat) : Int) = (lo : Int) % 960000000 by omega]
  first
    | rfl
    | (show Ending.returned (.tuple #[.int .u64 (IntKind.u64.wrap ((lo : Int) / 960000000)), .int .u64 ((lo : Int).tmod 960000000)]) = _
       rw [IntWalk.u64_in _ (show _ by omega), Int.tmod_eq_emod_of_nonneg (by omega)])
theorem and_low (a : Nat) (ha : a < 18446744073709551616) : bits .and .u64 (a : Int) 4294967295 = ((a % 4294967296 : Nat) : Int) := by
  have h := bits_and_u64_nat a 4294967295 ha (by omega)
  have e : a &&& 4294967295 = a % 4294967296 := Nat.and_two_pow_sub_one_eq_mod a 32
  rw [e] at h
  exact h
theorem div_facts (hi lo : Nat) (hh : hi < 960000000) (hl : lo < 18446744073709551616) : ∃ U : Nat, U = hi * 17179869184 + lo / 1073741824 ∧
    bits .and .u64 16492674416640000000 4294967295 = 0 ∧ bits .or .u64 ((hi : Int) * 17179869184) ((lo : Int) / 1073741824) = (U : Int) ∧
    IntKind.u64.wrap ((lo : Int) * 17179869184) = ((lo % 1073741824 * 17179869184 : Nat) : Int) ∧ ((lo % 1073741824 * 17179869184 : Nat) : Int) / 4294967296 = ((lo % 1073741824 * 4 : Nat) : Int) ∧
    bits .and .u64 ((lo % 1073741824 * 17179869184 : Nat) : Int) 4294967295 = 0 := by
  refine ⟨_, rfl, ?_, ?_, ?_, ?_, ?_⟩
  · exact and_low 16492674416640000000 (by omega)
  · have h := u64_or_nat (hi * 17179869184) (lo / 1073741824) (by omega) (by omega)
    rw [nat_join34 (hi * 17179869184) (lo / 1073741824) (by omega) (by omega)] at h
    rw [← h]
    congr 1 <;> omega
  · rw [IntKind.wrap_u64]; omega
  · omega
  · rw [and_low _ (by omega)]; omega
set_option maxRecDepth 1000000 in
set_option maxHeartbeats 1600000 in
theorem DIV64_high (hi lo : Nat) (h0 : 0 < hi) (hh : hi < 960000000) (hl : lo < 18446744073709551616) (w : World) : Calls Tryd.prog 36 #[.int .u64 hi, .int .u64 lo, .int .u64 960000000] w fun e w' => e = .returned (.tuple #[.int .u64 ((hi * 18446744073709551616 + lo) / 960000000 : Nat), .int .u64 ((hi * 18446744073709551616 + lo) % 960000000 : Nat)]) ∧ ∃ q, w' = w.drewN q := by
  have d1 : decide ((960000000 : Int) ≤ (hi : Int)) = false := by simp; omega
  have d2 : ((hi : Int) == 0) = false := by simp; omega
  go_enter Tryd.func36, Tryd.ntmps36
  go_wp2_with fail
  refine (LZ64_beat _).mono ?_
  rintro e w1 ⟨rfl, rfl⟩
  go_upto_region 15 with (fail)
  obtain ⟨U, hU, E1, E2, E3, E4, E5⟩ := div_facts hi lo hh hl
  obtain ⟨u1, u0, q1, r1, q0, r0, F1, F2, F3, F4, F5, F6, F7, F8, F9, F10⟩ := div64_beat hi lo hh hl
  rw [E1, E2, E3, E4, E5, F1]
  obtain ⟨Y, hY⟩ : ∃ Y : Int, Y = 16492674416640000000 := ⟨_, rfl⟩
  rw [← hY]
  have HY := Lib.hid hY
  clear hY
  rw [← hU] at F3
  have G1 : (U : Int) / 3840000000 = (q1 : Int) := by omega
  have HU := Lib.hid hU
  have HF := Lib.hid (And.intro F3 (And.intro F6 (And.intro F9 F10)))
  have HF1 := Lib.hid F1
  clear E1 E2 E3 E4 E5 F1 F2 F3 F6 F9 F10 hU d1 d2
  go_upto_region 17 with (fail)
  have R1 : (U : Int) - (q1 : Int) * 3840000000 = (r1 : Int) := by have := HF.out.1; omega
  rw [R1]
  have hu1 : u1 < 4294967296 := by have := HF1.out; omega
  have hq1 : (0 : Int) ≤ (q1 : Int) ∧ (q1 : Int) < 4294967296 := by omega
  have hr1 : (0 : Int) ≤ (r1 : Int) ∧ (r1 : Int) < 3840000000 := by omega
  have hv1 : (0 : Int) ≤ (u1 : Int) ∧ (u1 : Int) < 4294967296 := by omega
  have HK : Hid (∃ q1' r1' u1' U' : Nat, q1' = q1 ∧ r1' = r1 ∧ u1' = u1 ∧ U' = U) := ⟨_, _, _, _, rfl, rfl, rfl, rfl⟩
  obtain ⟨Q1, hQ1⟩ : ∃ Q : Int, (q1 : Int) = Q := ⟨_, rfl⟩
  obtain ⟨T1, hT1⟩ : ∃ Q : Int, (r1 : Int) = Q := ⟨_, rfl⟩
  obtain ⟨V1, hV1⟩ : ∃ Q : Int, (u1 : Int) = Q := ⟨_, rfl⟩
  obtain ⟨UU, hUU⟩ : ∃ Q : Int, (U : Int) = Q := ⟨_, rfl⟩
  have HQ := Lib.hid (And.intro hQ1 (And.intro hT1 (And.intro hV1 hUU)))
  rw [hQ1, hT1, hV1, hUU]
  rw [hQ1] at hq1
  rw [hT1] at hr1
  rw [hV1] at hv1
  obtain ⟨hq1a, hq1b⟩ := hq1
  obtain ⟨hr1a, hr1b⟩ := hr1
  obtain ⟨hv1a, hv1b⟩ := hv1
  have c1 : decide ((4294967296 : Int) ≤ Q1) = false := by simp; omega
  obtain ⟨X1, hX1⟩ : ∃ X : Int, X = T1 * 4294967296 + V1 := ⟨_, rfl⟩
  have H21 : Hid (IntKind.u64.wrap (IntKind.u64.wrap (IntKind.u64.wrap (UU * 4294967296) + V1) - IntKind.u64.wrap (Q1 * Y)) = X1) := by
    show _ = _
    have hf := HF.out.1
    rw [HY.out, IntKind.wrap_u64, IntKind.wrap_u64, IntKind.wrap_u64, IntKind.wrap_u64]
    omega
  obtain ⟨Q0, hQ0⟩ : ∃ Q : Int, (q0 : Int) = Q := ⟨_, rfl⟩
  obtain ⟨T0, hT0⟩ : ∃ Q : Int, (r0 : Int) = Q := ⟨_, rfl⟩
  have hq0 : 0 ≤ Q0 ∧ Q0 < 4294967296 := by omega
  have hr0 : 0 ≤ T0 ∧ T0 < 3840000000 := by omega
  have hXQ : Hid (X1 / 3840000000 = Q0 ∧ X1 - Q0 * 3840000000 = T0) := by
    have hf := HF.out.2.1
    refine ⟨by omega, by omega⟩
  have hx0 : 0 ≤ X1 := by omega
  have H28 : Hid (IntKind.u64.wrap (IntKind.u64.wrap (IntKind.u64.wrap (X1 * 4294967296)) - IntKind.u64.wrap (Q0 * Y)) / 17179869184 = ((r0 / 4 : Nat) : Int)) := by
    show _ = _
    have h1 := hXQ.out.2
    have h2 : IntKind.u64.wrap (IntKind.u64.wrap (IntKind.u64.wrap (X1 * 4294967296)) - IntKind.u64.wrap (Q0 * Y)) = T0 * 4294967296 := by
      rw [HY.out, IntKind.wrap_u64, IntKind.wrap_u64, IntKind.wrap_u64, IntKind.wrap_u64]
      omega
    rw [h2, ← hT0]
    omega
  have HWT : Hid (IntKind.u64.wrap T0 = T0) := by show _ = _; rw [IntKind.wrap_u64]; omega
  have H29 : Hid (Q1 * 4294967296 + Q0 = ((q1 * 4294967296 + q0 : Nat) : Int)) := by show _ = _; rw [← hQ1, ← hQ0]; omega
  have hx1 : X1 < 18446744073709551616 := by omega
  have HQ0 := Lib.hid (And.intro hQ0 hT0)
  have HX1 := Lib.hid hX1
  obtain ⟨hq0a, hq0b⟩ := hq0
  obtain ⟨hr0a, hr0b⟩ := hr0
  have c2 : decide ((4294967296 : Int) ≤ Q0) = false := by simp; omega
  clear R1 G1 hQ1 hT1 hV1 hUU F4 F5 F7 F8 hu1 h0 hh hl HK hQ0 hT0 hX1
  go_loop [15, 16] (fun a b => a = .int .u64 Q1 ∧ b = .int .u64 T1) (fun _ _ => 0)
  case atStart => exact ⟨rfl, rfl⟩
  case round =>
    obtain ⟨rfl, rfl⟩ := hrel
    go_upto_region 22 with (fail)
    rw [H21.out]
    go_upto_region 23 with (fail)
    rw [hXQ.out.1]
    go_upto_region 24 with (fail)
    rw [hXQ.out.2]
    go_loop [18, 16] (fun a b => a = .int .u64 Q0 ∧ b = .int .u64 T0) (fun _ _ => 0)
    case atStart => exact ⟨rfl, by rw [HWT.out]⟩
    case round =>
      obtain ⟨rfl, rfl⟩ := hrel
      go_upto_region 28 with (fail)
      go_wp2_with fail
      go_ret2
      refine ⟨?_, 0, rfl⟩
      have h3 := H28.out
      have h4 := H29.out
      rw [HF.out.2.2.1] at h4
      rw [HF.out.2.2.2] at h3
      show Ending.returned (Value.tuple #[Value.int .u64 _, Value.int .u64 _]) = _
      rw [h3, h4, show (((hi * 18446744073709551616 + lo) / 960000000 : Nat) : Int) = ((hi : Int) * 18446744073709551616 + (lo : Int)) / 960000000 by omega, show (((hi * 18446744073709551616 + lo) % 960000000 : Nat) : Int) = ((hi : Int) * 18446744073709551616 + (lo : Int)) % 960000000 by omega]
theorem DIV64_any (N : Nat) (hN : N / 18446744073709551616 < 960000000) (w : World) : Calls Tryd.prog 36 #[.int .u64 (N / 18446744073709551616 : Nat), .int .u64 (N % 18446744073709551616 : Nat), .int .u64 960000000] w fun e w' => e = .returned (.tuple #[.int .u64 (N / 960000000 : Nat), .int .u64 (N % 960000000 : Nat)]) ∧ ∃ q, w' = w.drewN q := by
  have hlo : N % 18446744073709551616 < 18446744073709551616 := Nat.mod_lt _ (by omega)
  by_cases h0 : 0 < N / 18446744073709551616
  · refine (DIV64_high _ _ h0 hN hlo w).mono fun e w' ⟨h1, h2⟩ => ⟨?_, h2⟩
    rw [h1, show N / 18446744073709551616 * 18446744073709551616 + N % 18446744073709551616 = N by omega]
  · have e : N / 18446744073709551616 = 0 := by omega
    rw [e]
    refine (DIV64_low _ hlo w).mono fun e w' ⟨h1, h2⟩ => ⟨?_, h2⟩
    rw [h1, show N % 18446744073709551616 = N by omega]
end Go.Proofs.YthjmhdnamhifjaaDoor
