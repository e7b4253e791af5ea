/- slices.Equal at notes and at bytes. -/
import Derived.Test.YtlnjildkdmeflaaDoorYfb
import Derived.Test.YtlnjildkdmeflaaDoorSameC
import Derived.Deep.QuietTactic
import Derived.BigQuiet
set_option linter.unusedSimpArgs false
set_option linter.unusedVariables false
namespace Go.Proofs.YtlnjildkdmeflaaDoor
open Go.RowKit Go.Dw
set_option maxHeartbeats 1600000 in
theorem EQNOTES_same (A A' : Option Addr) (n c c' : Nat) (l : List Nx) (w : World) (B : Nat) (hn : n ≤ 9223372036854775807) (hh : Hid (NtsAt w B A n l)) (hh' : Hid (NtsAt w B A' n l)) :
    Calls Tryd.prog 11 #[.slice A n c, .slice A' n c'] w fun e w' => e = .returned (.bool true) ∧ ∃ q, w' = w.drewN q := by
  have hne : ((n : Int) != (n : Int)) = false := by simp
  go_enter Tryd.func11, Tryd.ntmps11
  go_wp2_with fail
  go_loopw [13] (fun i wr => ∃ k : Nat, k ≤ n ∧ i = .int .i64 k ∧ Hid (∃ q, wr = w.drewN q)) (fun i _ => n - (intOf i).toNat)
  case atStart => exact ⟨0, Nat.zero_le _, rfl, ⟨0, rfl⟩⟩
  case round =>
    obtain ⟨k, hk, rfl, hS⟩ := hrel
    obtain ⟨q0, hq0⟩ := hS.out
    have HB : Hid (Below B w wr) := by rw [hq0]; exact belowN (Below.refl _ _) _
    clear hq0
    by_cases hlt : k < n
    · obtain ⟨bA, oA, rfl, hb, k1, k2⟩ := (hh.out.below HB.out (Nat.le_refl _)).2 k hlt
      obtain ⟨bC, oC, rfl, hb', m1, m2⟩ := (hh'.out.below HB.out (Nat.le_refl _)).2 k hlt
      obtain ⟨⟨x, y⟩, hx⟩ : ∃ x, nxOf l k = x := ⟨_, rfl⟩
      rw [hx] at k1 m1 k2 m2
      have hk0 : (0 : Int) ≤ (k : Int) := by omega
      have hkn : (k : Int) < (n : Int) := by omega
      clear hx HB
      go_wp2_with fail
      go_quiet (fail)
      have HS2 : Hid (∃ q, wr.drewN nq = w.drewN q) := by
        obtain ⟨q, h⟩ := hS.out
        exact ⟨q + nq, by rw [h, World.drewN_drewN]⟩
      go_wp2_with fail
      go_roundw
      case rel => exact ⟨k + 1, by omega, by go_num, HS2⟩
      case measure => simp [intOf]; omega
    · obtain rfl : k = n := by omega
      go_wp2_with fail
      go_ret
      exact ⟨rfl, hS.out⟩
set_option maxHeartbeats 1600000 in
theorem EQBYTES_long (A A' : Option Addr) (n m c c' : Nat) (w : World) (hnm : n ≠ m) :
    Calls Tryd.prog 9 #[.slice A n c, .slice A' m c'] w fun e w' => e = .returned (.bool false) ∧ w = w' := by
  have hne : ((n : Int) != (m : Int)) = true := by simp; omega
  go_enter Tryd.func9, Tryd.ntmps9
  go_wp2_with fail
  go_ret
  exact ⟨rfl, rfl⟩
theorem by_ext {b d : By} {n : Nat} (h1 : b.length = n) (h2 : d.length = n) (h : ∀ j, j < n → byOf b j = byOf d j) : b = d := by
  refine List.ext_getElem (by omega) fun j h3 h4 => ?_
  have := h j (by omega)
  simpa [byOf, List.getD, h3, h4] using this
set_option maxHeartbeats 1600000 in
theorem EQBYTES_even (A A' : Option Addr) (n c c' : Nat) (b d : By) (w : World) (B : Nat) (hn : n ≤ 9223372036854775807) (hh : Hid (BysAt w B A n b)) (hh' : Hid (BysAt w B A' n d)) :
    Calls Tryd.prog 9 #[.slice A n c, .slice A' n c'] w fun e w' => e = .returned (.bool (decide (b = d))) ∧ ∃ q, w' = w.drewN q := by
  have hne : ((n : Int) != (n : Int)) = false := by simp
  go_enter Tryd.func9, Tryd.ntmps9
  go_wp2_with fail
  go_loopw [13] (fun i wr => ∃ k : Nat, k ≤ n ∧ i = .int .i64 k ∧ Hid (∀ j, j < k → byOf b j = byOf d j) ∧ Hid (∃ q, wr = w.drewN q)) (fun i _ => n - (intOf i).toNat)
  case atStart => exact ⟨0, Nat.zero_le _, rfl, fun j h => by omega, ⟨0, rfl⟩⟩
  case round =>
    obtain ⟨k, hk, rfl, HE, hS⟩ := hrel
    obtain ⟨q0, hq0⟩ := hS.out
    have HB : Hid (Below B w wr) := by rw [hq0]; exact belowN (Below.refl _ _) _
    clear hq0
    by_cases hlt : k < n
    · obtain ⟨bA, oA, rfl, hb, k1⟩ := (hh.out.below HB.out (Nat.le_refl _)).2 k hlt
      obtain ⟨bC, oC, rfl, hb', m1⟩ := (hh'.out.below HB.out (Nat.le_refl _)).2 k hlt
      unfold byV at k1 m1
      obtain ⟨x, hx⟩ : ∃ x, (byOf b k).toNat = x := ⟨_, rfl⟩
      obtain ⟨y, hy⟩ : ∃ y, (byOf d k).toNat = y := ⟨_, rfl⟩
      have HX := Lib.hid hx
      have HY := Lib.hid hy
      rw [hx] at k1
      rw [hy] at m1
      have hk0 : (0 : Int) ≤ (k : Int) := by omega
      have hkn : (k : Int) < (n : Int) := by omega
      clear hx hy HB
      by_cases hxy : x = y
      · subst hxy
        have hxx : ((x : Int) != (x : Int)) = false := by simp
        go_wp2_with fail
        go_quiet (fail)
        have HS2 : Hid (∃ q, wr.drewN nq = w.drewN q) := by
          obtain ⟨q, h⟩ := hS.out
          exact ⟨q + nq, by rw [h, World.drewN_drewN]⟩
        have HE2 : Hid (∀ j, j < k + 1 → byOf b j = byOf d j) := fun j hj => by
          by_cases h : j = k
          · subst h; exact UInt8.toNat_inj.1 (HX.out.trans HY.out.symm)
          · exact HE.out j (by omega)
        go_wp2_with fail
        go_roundw
        case rel => exact ⟨k + 1, by omega, by go_num, HE2, HS2⟩
        case measure => simp [intOf]; omega
      · have hxx : ((x : Int) != (y : Int)) = true := by simp; omega
        have HNE := Lib.hid hxy
        clear hxy
        go_wp2_with fail
        go_quiet (fail)
        have HS2 : Hid (∃ q, wr.drewN nq = w.drewN q) := by
          obtain ⟨q, h⟩ := hS.out
          exact ⟨q + nq, by rw [h, World.drewN_drewN]⟩
        go_wp2_with fail
        go_ret
        have hbd : b ≠ d := fun e => HNE.out (by rw [← HX.out, ← HY.out, e])
        rw [decide_eq_false hbd]
        exact ⟨rfl, HS2.out⟩
    · obtain rfl : k = n := by omega
      have hbd : b = d := by_ext hh.out.1 hh'.out.1 HE.out
      have HBD : Hid (decide (b = d) = true) := decide_eq_true hbd
      clear hbd
      go_wp2_with fail
      go_ret
      rw [HBD.out]
      exact ⟨rfl, hS.out⟩
theorem EQBYTES_any (A A' : Option Addr) (n m c c' : Nat) (b d : By) (w : World) (B : Nat) (hn : n ≤ 9223372036854775807) (hh : Hid (BysAt w B A n b)) (hh' : Hid (BysAt w B A' m d)) :
    Calls Tryd.prog 9 #[.slice A n c, .slice A' m c'] w fun e w' => e = .returned (.bool (decide (b = d))) ∧ ∃ q, w' = w.drewN q := by
  by_cases h : n = m
  · subst h
    exact EQBYTES_even A A' n c c' b d w B hn hh hh'
  · refine (EQBYTES_long A A' n m c c' w h).mono ?_
    rintro e w' ⟨rfl, rfl⟩
    have hbd : b ≠ d := fun e => h (by rw [← hh.out.1, ← hh'.out.1, e])
    rw [decide_eq_false hbd]
    exact ⟨rfl, 0, rfl⟩
end Go.Proofs.YtlnjildkdmeflaaDoor
