/- Bytes, and chunks, that are the same are found to be the same. -/
import Derived.Test.YtpnbkkpbgpcgiaaCks
import Derived.Test.YtpnbkkpbgpcgiaaSame
import Derived.RegionTactic
import Derived.BigRegion
set_option linter.unusedSimpArgs false
set_option linter.unusedVariables false
namespace Go.Proofs.Ytpnbkkpbgpcgiaa
open Go.RowKit Go.Dw
set_option maxHeartbeats 1600000 in
theorem EQBYTES_same (A A' : Option Addr) (n c c' : Nat) (b : By) (w : World) (B : Nat) (hn : n ≤ 9223372036854775807) (hh : Hid (BysAt w B A n b)) (hh' : Hid (BysAt w B A' n b)) :
    Calls Try.prog 49 #[.slice A n c, .slice A' n c'] w fun e w' => e = .returned (.bool true) ∧ ∃ q, w' = w.drewN q := by
  have hne : ((n : Int) != (n : Int)) = false := by simp
  go_enter Try.func49, Try.ntmps49
  go_wp2_with fail
  go_loopw [13] (fun i wr => ∃ k : Nat, k ≤ n ∧ i = .int .i64 k ∧ Hid (∃ q, wr = w.drewN q)) (fun i _ => n - (intOf i).toNat)
  case atStart => exact ⟨0, Nat.zero_le _, rfl, ⟨0, rfl⟩⟩
  case round =>
    obtain ⟨k, hk, rfl, hS⟩ := hrel
    obtain ⟨q0, hq0⟩ := hS.out
    have HB : Hid (Below B w wr) := by rw [hq0]; exact belowN (Below.refl _ _) _
    clear hq0
    by_cases hlt : k < n
    · obtain ⟨bA, oA, rfl, hb, k1⟩ := (hh.out.below HB.out (Nat.le_refl _)).2 k hlt
      obtain ⟨bC, oC, rfl, hb', m1⟩ := (hh'.out.below HB.out (Nat.le_refl _)).2 k hlt
      unfold byV at k1 m1
      obtain ⟨x, hx⟩ : ∃ x, (byOf b k).toNat = x := ⟨_, rfl⟩
      rw [hx] at k1 m1
      have hk0 : (0 : Int) ≤ (k : Int) := by omega
      have hkn : (k : Int) < (n : Int) := by omega
      have hxx : ((x : Int) != (x : Int)) = false := by simp
      clear hx HB
      go_wp2_with fail
      go_quiet (fail)
      have HS2 : Hid (∃ q, wr.drewN nq = w.drewN q) := by
        obtain ⟨q, h⟩ := hS.out
        exact ⟨q + nq, by rw [h, World.drewN_drewN]⟩
      go_wp2_with fail
      go_roundw
      case rel => exact ⟨k + 1, by omega, by go_num, HS2⟩
      case measure => simp [intOf]; omega
    · obtain rfl : k = n := by omega
      go_wp2_with fail
      go_ret
      exact ⟨rfl, hS.out⟩
set_option maxRecDepth 100000 in
set_option maxHeartbeats 1600000 in
theorem SAMECH_same (A A' : Option Addr) (n c c' : Nat) (l : List Ck) (hn : n ≤ 1000000000) (hd : Hid (∀ c ∈ l, c.2.length ≤ 9223372036854775807)) (w : World) (B : Nat) (hB : B ≤ w.heap.size) (hh : Hid (CksAt w B A n l)) (hh' : Hid (CksAt w B A' n l)) :
    Calls Try.prog 50 #[.slice A n c, .slice A' n c'] w fun e w' => e = .returned (.bool true) ∧ Below w.heap.size w w' := by
  have hne : ((n : Int) != (n : Int)) = false := by simp
  have hl := Lib.hid hh.out.1
  go_enter Try.func50, Try.ntmps50
  go_wp2_with fail
  go_loopw [5] (fun i wr => ∃ k : Nat, k ≤ n ∧ i = .int .i64 k ∧ Hid (Below w.heap.size w wr)) (fun i _ => n - (intOf i).toNat)
  case atStart => exact ⟨0, Nat.zero_le _, rfl, Below.refl _ _⟩
  case round =>
    obtain ⟨k, hk, rfl, hS⟩ := hrel
    by_cases hlt : k < n
    · obtain ⟨bA, oA, rfl, hb, k1, A5, c5, k2, -, -, hy1⟩ := (hh.out.below (hS.out.mono hB) (Nat.le_refl _)).2 k hlt
      obtain ⟨bC, oC, rfl, hb', m1, A6, c6, m2, -, -, hy2⟩ := (hh'.out.below (hS.out.mono hB) (Nat.le_refl _)).2 k hlt
      have hdm := hd.out _ (ck_mem (l := l) (k := k) (by rw [hl.out]; exact hlt))
      unfold ckOf at hdm
      obtain ⟨d, hd'⟩ : ∃ d, l.getD k ([], []) = d := ⟨_, rfl⟩
      rw [hd'] at k1 k2 m1 m2 hy1 hy2 hdm
      obtain ⟨nm, dt⟩ := d
      dsimp only at k1 k2 m1 m2 hy1 hy2 hdm
      unfold strOf at k1 m1
      obtain ⟨s, hs⟩ : ∃ s, ByteArray.mk nm.toArray = s := ⟨_, rfl⟩
      rw [hs] at k1 m1
      obtain ⟨m, hm⟩ : ∃ m, dt.length = m := ⟨_, rfl⟩
      rw [hm] at k2 m2 hy1 hy2 hdm
      have HY1 := Lib.hid hy1
      have HY2 := Lib.hid hy2
      have hk0 : (0 : Int) ≤ (k : Int) := by omega
      have hkn : (k : Int) < (n : Int) := by omega
      have hss : (!(s.toList == s.toList)) = false := by simp
      clear hd' hs hm hy1 hy2
      go_wp2_with fail
      go_quiet ((go_at_call 49; exact Calls.quiet_of ((EQBYTES_same A5 A6 m c5 c6 dt _ B hdm (HY1.out.below (belowN (Below.refl _ _) _) (Nat.le_refl _)) (HY2.out.below (belowN (Below.refl _ _) _) (Nat.le_refl _))).mono fun e w' h => h)))
      have HS2 := Lib.hid (belowN hS.out nq)
      go_wp2_with fail
      go_roundw
      case rel => exact ⟨k + 1, by omega, by go_num, HS2⟩
      case measure => simp [intOf]; omega
    · obtain rfl : k = n := by omega
      go_wp2_with fail
      go_ret
      exact ⟨rfl, hS.out⟩
end Go.Proofs.Ytpnbkkpbgpcgiaa
