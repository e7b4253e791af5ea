/- Bytes, and chunks, that are the same are found to be the same. -/
import Derived.Test.YtlnjildkdmeflaaDoorCks
import Derived.Test.YtlnjildkdmeflaaDoorWb
import Derived.RegionTactic
import Derived.BigRegion
set_option linter.unusedSimpArgs false
set_option linter.unusedVariables false
namespace Go.Proofs.YtlnjildkdmeflaaDoor
open Go.RowKit Go.Dw
set_option maxHeartbeats 1600000 in
theorem EQBYTES_same (A A' : Option Addr) (n c c' : Nat) (b : By) (w : World) (B : Nat) (hn : n ≤ 9223372036854775807) (hh : Hid (BysAt w B A n b)) (hh' : Hid (BysAt w B A' n b)) :
    Calls Tryd.prog 9 #[.slice A n c, .slice A' n c'] w fun e w' => e = .returned (.bool true) ∧ ∃ q, w' = w.drewN q := by
  have hne : ((n : Int) != (n : Int)) = false := by simp
  go_enter Tryd.func9, Tryd.ntmps9
  go_wp2_with fail
  go_loopw [13] (fun i wr => ∃ k : Nat, k ≤ n ∧ i = .int .i64 k ∧ Hid (∃ q, wr = w.drewN q)) (fun i _ => n - (intOf i).toNat)
  case atStart => exact ⟨0, Nat.zero_le _, rfl, ⟨0, rfl⟩⟩
  case round =>
    obtain ⟨k, hk, rfl, hS⟩ := hrel
    obtain ⟨q0, hq0⟩ := hS.out
    have HB : Hid (Below B w wr) := by rw [hq0]; exact belowN (Below.refl _ _) _
    clear hq0
    by_cases hlt : k < n
    · obtain ⟨bA, oA, rfl, hb, k1⟩ := (hh.out.below HB.out (Nat.le_refl _)).2 k hlt
      obtain ⟨bC, oC, rfl, hb', m1⟩ := (hh'.out.below HB.out (Nat.le_refl _)).2 k hlt
      unfold byV at k1 m1
      obtain ⟨x, hx⟩ : ∃ x, (byOf b k).toNat = x := ⟨_, rfl⟩
      rw [hx] at k1 m1
      have hk0 : (0 : Int) ≤ (k : Int) := by omega
      have hkn : (k : Int) < (n : Int) := by omega
      have hxx : ((x : Int) != (x : Int)) = false := by simp
      clear hx HB
      go_wp2_with fail
      go_quiet (fail)
      have HS2 : Hid (∃ q, wr.drewN nq = w.drewN q) := by
        obtain ⟨q, h⟩ := hS.out
        exact ⟨q + nq, by rw [h, World.drewN_drewN]⟩
      go_wp2_with fail
      go_roundw
      case rel => exact ⟨k + 1, by omega, by go_num, HS2⟩
      case measure => simp [intOf]; omega
    · obtain rfl : k = n := by omega
      go_wp2_with fail
      go_ret
      exact ⟨rfl, hS.out⟩
end Go.Proofs.YtlnjildkdmeflaaDoor
