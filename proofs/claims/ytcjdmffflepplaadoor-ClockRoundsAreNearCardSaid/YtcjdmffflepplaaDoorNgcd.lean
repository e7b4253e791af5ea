/- num: gcd. -/
import Derived.Test.YtcjdmffflepplaaDoorNdivl
import Derived.Deep.LoopGhost
set_option linter.unusedSimpArgs false
set_option linter.unusedVariables false
namespace Go.Proofs.YtcjdmffflepplaaDoor
open Go.RowKit Go.Dw

theorem gcd_step (x y : Nat) : Nat.gcd x y = Nat.gcd y (x % y) := by
  rw [Nat.gcd_comm x y, Nat.gcd_rec y x, Nat.gcd_comm]
theorem NSMALL_below (A : Option Addr) (n c x : Nat) (w : World) (B : Nat) (hh : Hid (NumAt .u32 73 4294967296 w B A n c x)) :
    Calls Tryd.prog 61 #[.slice A n c] w fun e w' => e = .returned (.tuple #[.int .u64 (smallN x).1, .bool (smallN x).2]) ∧ Below w.heap.size w w' :=
  (NSMALL_any A n c x w B hh).mono fun e w' ⟨h1, q, h2⟩ => ⟨h1, by rw [h2]; exact belowN (Below.refl _ _) q⟩
set_option maxRecDepth 100000 in
set_option maxHeartbeats 2000000 in
theorem GCD_any (A A' : Option Addr) (n c x n' c' y : Nat) (hn : n ≤ 100000000) (hn' : n' ≤ 100000000) (w : World) (B : Nat) (hB : B ≤ w.heap.size) (hh : Hid (NumAt .u32 73 4294967296 w B A n c x)) (hh' : Hid (NumAt .u32 73 4294967296 w B A' n' c' y)) :
    Calls Tryd.prog 47 #[.slice A n c, .slice A' n' c'] w fun e w' => ∃ A2 n2 c2, e = .returned (.slice A2 n2 c2) ∧ NumAt .u32 73 4294967296 w' w'.heap.size A2 n2 c2 (Nat.gcd x y) ∧ Below w.heap.size w w' := by
  obtain ⟨G, hG⟩ : ∃ G, Nat.gcd x y = G := ⟨_, rfl⟩
  have HG := Lib.hid hG
  rw [hG]
  clear hG
  go_enter Tryd.func47, Tryd.ntmps47
  go_wp2_with fail
  go_loopg [0, 1] y (fun k s0 s1 wr => ∃ (A : Option Addr) (n c x : Nat) (A' : Option Addr) (n' c' : Nat), s0 = .slice A n c ∧ s1 = .slice A' n' c' ∧ n ≤ 100000000 ∧ n' ≤ 100000000 ∧ Hid (Nat.gcd x k = G) ∧ Hid (NumAt .u32 73 4294967296 wr wr.heap.size A n c x) ∧ Hid (NumAt .u32 73 4294967296 wr wr.heap.size A' n' c' k) ∧ Hid (Below w.heap.size w wr))
  case atStart => exact ⟨A, n, c, x, A', n', c', rfl, rfl, hn, hn', HG, hh.out.mono hB, hh'.out.mono hB, Below.refl _ _⟩
  case round =>
    clear hh hh' HG hn hn'
    obtain ⟨A, n, c, x, A', n', c', rfl, rfl, hn, hn', HG, hh, hh', hw⟩ := hrel
    have hc' := hh'.out.1
    have hc2' := hh'.out.2.1
    unfold maxLen at hc2'
    by_cases hy : 0 < gk
    · have hn0 : 0 < n' := (hh'.out.pos_iff (by omega)).2 hy
      by_cases hs : x < 18446744073709551616 ∧ gk < 18446744073709551616
      · obtain ⟨hx9, hy9⟩ := hs
        go_wp2_with fail
        refine (NSMALL_yes A n c x hx9 _ _ hh).mono ?_
        rintro e w1 ⟨rfl, hb1⟩
        have HB1 := Lib.hid hb1
        clear hb1
        have HX9 := Lib.hid hx9
        clear hx9
        go_wp2_with fail
        refine (NSMALL_yes A' n' c' gk hy9 _ _ (Lib.hid (hh'.out.below HB1.out (Nat.le_refl _)))).mono ?_
        rintro e w2 ⟨rfl, hb2⟩
        have HB2 := Lib.hid (hw.out.trans ((HB1.out.trans (hb2.mono HB1.out.size)).mono hw.out.size))
        have HY9 := Lib.hid hy9
        clear hb2 hy9
        go_wp2_with fail
        go_loopw [5, 7] (fun a b wr => ∃ p q : Nat, a = .int .u64 p ∧ b = .int .u64 q ∧ p < 18446744073709551616 ∧ q < 18446744073709551616 ∧ Hid (Nat.gcd p q = G) ∧ Hid (Below w.heap.size w wr)) (fun _ b _ => (intOf b).toNat)
        case atStart => exact ⟨x, gk, rfl, rfl, HX9.out, HY9.out, HG, HB2⟩
        case round =>
          obtain ⟨p, q, rfl, rfl, hp, hq, hg, hw2⟩ := hrel
          by_cases hq0 : 0 < q
          · obtain ⟨r, hr⟩ : ∃ r, p % q = r := ⟨_, rfl⟩
            have hri : (p : Int).tmod (q : Int) = (r : Int) := by rw [← hr]; exact rfl
            have hre : (p : Int) % (q : Int) = (r : Int) := by rw [← hr]; exact (Int.natCast_emod p q).symm
            have hrq : r < q := by rw [← hr]; exact Nat.mod_lt _ hq0
            have hrw : IntKind.u64.wrap (r : Int) = (r : Int) := IntWalk.u64_in _ (by omega)
            have hqn : ¬ q = 0 := by omega
            have hgn : Hid (Nat.gcd q r = G) := by show _ = _; rw [← hr, ← gcd_step]; exact hg.out
            clear hr
            go_wp2_with fail
            go_quiet (fail)
            go_wp2_with fail
            go_roundw
            case rel => exact ⟨q, r, rfl, rfl, hq, by omega, hgn, belowN hw2.out _⟩
            case measure => simp [intOf] <;> omega
          · obtain rfl : q = 0 := by omega
            have hpg : Hid (p = G) := by have := hg.out; rw [Nat.gcd_zero_right] at this; exact this
            go_wp2_with fail
            refine (NATOF_any p hp _).mono ?_
            rintro e w3 ⟨A3, n3, c3, rfl, h3, k3, hb3⟩
            have H3 := Lib.hid h3
            have HB3 := Lib.hid (hw2.out.trans (hb3.mono hw2.out.size))
            clear h3 hb3
            go_wp2_with fail
            go_ret
            exact ⟨_, _, _, rfl, by rw [← hpg.out]; exact H3.out, HB3.out⟩
      · have HGN : Hid (Nat.gcd gk (x % gk) = G) := by show _ = _; rw [← gcd_step]; exact HG.out
        have HLT := Lib.hid (Nat.mod_lt x hy)
        by_cases hx9 : x < 18446744073709551616
        · have hy9 : 18446744073709551616 ≤ gk := by omega
          clear hs
          go_wp2_with fail
          refine (NSMALL_yes A n c x hx9 _ _ hh).mono ?_
          rintro e w1 ⟨rfl, hb1⟩
          have HB1 := Lib.hid hb1
          clear hb1 hx9
          go_wp2_with fail
          refine (NSMALL_no A' n' c' gk hy9 _ _ (Lib.hid (hh'.out.below HB1.out (Nat.le_refl _)))).mono ?_
          rintro e w2 ⟨rfl, hb2⟩
          have HB2 := Lib.hid (HB1.out.trans (hb2.mono HB1.out.size))
          clear hb2
          go_wp2_with fail
          refine (NDIV_any A A' n c x n' c' gk hn hy _ wr.heap.size HB2.out.size (Lib.hid (hh.out.below HB2.out (Nat.le_refl _))) (Lib.hid (hh'.out.below HB2.out (Nat.le_refl _)))).mono ?_
          rintro e w3 ⟨A1, n1, c1, A2, n2, c2, rfl, h1, h2, k1, k2, hb3⟩
          have H2 := Lib.hid h2
          have HB3 := Lib.hid (HB2.out.trans (hb3.mono HB2.out.size))
          clear h1 h2 hb3
          go_wp2_with fail
          go_roundg (x % gk)
          case measure => exact HLT.out
          case rel => exact ⟨_, _, _, gk, _, _, _, rfl, rfl, hn', Nat.le_trans k2 hn', HGN, hh'.out.to HB3.out (Nat.le_refl _) HB3.out.size, H2, hw.out.trans (HB3.out.mono hw.out.size)⟩
        · have hx8 : 18446744073709551616 ≤ x := by omega
          clear hs hx9
          go_wp2_with fail
          refine (NSMALL_no A n c x hx8 _ _ hh).mono ?_
          rintro e w1 ⟨rfl, hb1⟩
          have HB1 := Lib.hid hb1
          clear hb1 hx8
          obtain ⟨z, hz⟩ : ∃ z, smallN gk = z := ⟨_, rfl⟩
          have HZ := Lib.hid hz
          clear hz
          go_wp2_with fail
          refine (NSMALL_below A' n' c' gk _ _ (Lib.hid (hh'.out.below HB1.out (Nat.le_refl _)))).mono ?_
          rintro e w2 ⟨rfl, hb2⟩
          rw [HZ.out]
          obtain ⟨z1, z2⟩ := z
          dsimp only
          have HB2 := Lib.hid (HB1.out.trans (hb2.mono HB1.out.size))
          clear hb2
          go_wp2_with fail
          refine (NDIV_any A A' n c x n' c' gk hn hy _ wr.heap.size HB2.out.size (Lib.hid (hh.out.below HB2.out (Nat.le_refl _))) (Lib.hid (hh'.out.below HB2.out (Nat.le_refl _)))).mono ?_
          rintro e w3 ⟨A1, n1, c1, A2, n2, c2, rfl, h1, h2, k1, k2, hb3⟩
          have H2 := Lib.hid h2
          have HB3 := Lib.hid (HB2.out.trans (hb3.mono HB2.out.size))
          clear h1 h2 hb3
          go_wp2_with fail
          go_roundg (x % gk)
          case measure => exact HLT.out
          case rel => exact ⟨_, _, _, gk, _, _, _, rfl, rfl, hn', Nat.le_trans k2 hn', HGN, hh'.out.to HB3.out (Nat.le_refl _) HB3.out.size, H2, hw.out.trans (HB3.out.mono hw.out.size)⟩
    · obtain rfl : gk = 0 := by omega
      have hpg : Hid (x = G) := by have := HG.out; rw [Nat.gcd_zero_right] at this; exact this
      have hn0 : n' = 0 := by
        refine Nat.eq_zero_of_not_pos fun h => ?_
        have := (hh'.out.pos_iff (by omega)).1 h
        omega
      subst hn0
      go_wp2_with fail
      go_ret
      exact ⟨_, _, _, rfl, by rw [← hpg.out]; exact hh.out, hw.out⟩
end Go.Proofs.YtcjdmffflepplaaDoor
