/- RoundsAreNear, walked. -/
import Derived.Test.YtcjdmffflepplaaDoorLsu
import Derived.Test.YtcjdmffflepplaaDoorLrp
set_option linter.unusedSimpArgs false
set_option linter.unusedVariables false
namespace Go.Proofs.YtcjdmffflepplaaDoor
open Go.RowKit Go.Dw
set_option maxRecDepth 100000 in
set_option maxHeartbeats 4000000 in
theorem lawRn_zero (a : Int) (h1 : -9223372036854775808 ≤ a) (h2 : a ≤ 9223372036854775807) (w : World) :
    Calls Tryd.prog 5 #[.int .i64 a, .int .i64 0] w fun e w' => e = .returned (.bool true) ∧ Below w.heap.size w w' := by
    have HB : Hid (Below w.heap.size w w) := Below.refl _ _
    have E1 : Hid (ratioS a 0 = (noB, noB, 13)) := rfl
    go_enter Tryd.func5, Tryd.ntmps5
    go_wp2_with fail
    refine (RATIOOF_any a 0 h1 h2 (by omega) (by omega) _).mono ?_
    rintro e w1 ⟨rfl, hb1⟩
    rw [E1.out]
    unfold tup3
    dsimp only
    replace HB := Lib.hid (HB.out.trans (hb1.mono HB.out.size))
    clear hb1
    go_upto_region 2 with (fail)
    obtain ⟨X1, g1, hX, hg, B1, HBX, _⟩ := cell_new w1 28 #[.string noB, .string noB]
    rw [← hX, ← hg]
    replace HB := Lib.hid (HB.out.trans (HBX.out.mono HB.out.size))
    replace B1 : Hid (RBox X1 g1 noB noB) := B1
    clear hX hg HBX
    go_wp2_with fail
    refine (AWAKE_any _).mono ?_
    rintro e w2 ⟨rfl, hb2⟩
    replace HB := Lib.hid (HB.out.trans (hb2.mono HB.out.size))
    clear hb2
    go_wp2_with fail
    go_ret
    exact ⟨rfl, HB.out⟩
set_option maxRecDepth 100000 in
set_option maxHeartbeats 8000000 in
theorem lawRn_ok (a b : Int) (h1 : -9223372036854775808 ≤ a) (h2 : a ≤ 9223372036854775807) (h3 : -9223372036854775808 ≤ b) (h4 : b ≤ 9223372036854775807) (hb : b ≠ 0) (w : World) :
    Calls Tryd.prog 5 #[.int .i64 a, .int .i64 b] w fun e w' => e = .returned (.bool true) ∧ Below w.heap.size w w' := by
    have HB : Hid (Below w.heap.size w w) := Below.refl _ _
    obtain ⟨q, hq⟩ : ∃ q, (a : Rat) / b = q := ⟨_, rfl⟩
    have hf := frac_few a b h1 h2 h3 h4 hb
    have E1 := Lib.hid (ratioS_frac (a := a) hb)
    rw [hq] at hf E1
    rw [resP_few hf] at E1
    have HR := Lib.hid (Rt.tx hf)
    obtain ⟨S, hS⟩ : ∃ S, txN q = S := ⟨_, rfl⟩
    obtain ⟨T, hT⟩ : ∃ T, txD q = T := ⟨_, rfl⟩
    rw [hS, hT] at E1 HR
    have zS : S.size ≤ maxLen := le_max HR.out.size.1 (by omega)
    have zT : T.size ≤ maxLen := le_max HR.out.size.2 (by omega)
    have HN := Lib.hid hb
    have EF : Hid (rndS S T 1 = rndZ q.floor) := rndS_rt HR.out rfl
    have EN : Hid (rndS S T 2 = rndZ (nearQ q)) := rndS_rt HR.out rfl
    have EC : Hid (rndS S T 3 = rndZ q.ceil) := rndS_rt HR.out rfl
    have FL := Lib.hid (Rat.floor_le q)
    have CL : Hid (q ≤ ((q.ceil : Int) : Rat)) := Rat.le_ceil
    have CF := Lib.hid (ceil_floor q)
    have NR := Lib.hid (near_or q)
    obtain ⟨x, hx⟩ : ∃ x, q.floor = x := ⟨_, rfl⟩
    obtain ⟨y, hy⟩ : ∃ x, nearQ q = x := ⟨_, rfl⟩
    obtain ⟨z, hz⟩ : ∃ x, q.ceil = x := ⟨_, rfl⟩
    rw [hx] at EF FL CF NR
    rw [hy] at EN NR
    rw [hz] at EC CL CF NR
    clear hx hy hz hS hT hf hq hb
    obtain ⟨⟨x', f⟩, hr1⟩ : ∃ p, rndZ x = p := ⟨_, rfl⟩
    obtain ⟨⟨y', g⟩, hr2⟩ : ∃ p, rndZ y = p := ⟨_, rfl⟩
    obtain ⟨⟨z', h⟩, hr3⟩ : ∃ p, rndZ z = p := ⟨_, rfl⟩
    have R1 := Lib.hid (rnd_small x)
    have R2 := Lib.hid (rnd_small y)
    have R3 := Lib.hid (rnd_small z)
    rw [hr1] at EF R1
    rw [hr2] at EN R2
    rw [hr3] at EC R3
    clear hr1 hr2 hr3
    go_enter Tryd.func5, Tryd.ntmps5
    go_wp2_with fail
    refine (RATIOOF_any a b h1 h2 h3 h4 _).mono ?_
    rintro e w1 ⟨rfl, hb1⟩
    rw [E1.out]
    unfold tup3
    dsimp only
    replace HB := Lib.hid (HB.out.trans (hb1.mono HB.out.size))
    clear hb1
    go_upto_region 2 with (fail)
    obtain ⟨X1, g1, hX, hg, B1, HBX, _⟩ := cell_new w1 28 #[.string S, .string T]
    rw [← hX, ← hg]
    replace HB := Lib.hid (HB.out.trans (HBX.out.mono HB.out.size))
    replace B1 : Hid (RBox X1 g1 S T) := B1
    clear hX hg HBX
    obtain ⟨B1c0, B1c1, _, _⟩ := two_cells B1.out
    go_wp2_with fail
    refine (ROUNDED_any S T 1 zS zT _).mono ?_
    rintro e w2 ⟨rfl, hb2⟩
    rw [EF.out]
    clear B1c0 B1c1
    replace B1 := Lib.hid (B1.out.below hb2)
    replace HB := Lib.hid (HB.out.trans (hb2.mono HB.out.size))
    clear hb2
    dsimp only
    obtain ⟨B1c0, B1c1, _, _⟩ := two_cells B1.out
    go_wp2_with fail
    refine (ROUNDED_any S T 2 zS zT _).mono ?_
    rintro e w3 ⟨rfl, hb3⟩
    rw [EN.out]
    clear B1c0 B1c1
    replace B1 := Lib.hid (B1.out.below hb3)
    replace HB := Lib.hid (HB.out.trans (hb3.mono HB.out.size))
    clear hb3
    dsimp only
    obtain ⟨B1c0, B1c1, _, _⟩ := two_cells B1.out
    go_wp2_with fail
    refine (ROUNDED_any S T 3 zS zT _).mono ?_
    rintro e w4 ⟨rfl, hb4⟩
    rw [EC.out]
    clear B1c0 B1c1
    replace B1 := Lib.hid (B1.out.below hb4)
    replace HB := Lib.hid (HB.out.trans (hb4.mono HB.out.size))
    clear hb4
    dsimp only
    obtain ⟨B1c0, B1c1, _, _⟩ := two_cells B1.out
    rcases R1.out with ⟨e1, s1⟩ | ⟨e1, s1⟩
    all_goals (injection e1 with e1 e1')
    all_goals subst e1'
    all_goals subst e1
    all_goals (rcases R2.out with ⟨e2, s2⟩ | ⟨e2, s2⟩)
    all_goals (injection e2 with e2 e2')
    all_goals subst e2'
    all_goals subst e2
    all_goals (rcases R3.out with ⟨e3, s3⟩ | ⟨e3, s3⟩)
    all_goals (injection e3 with e3 e3')
    all_goals subst e3'
    all_goals subst e3
    rotate_left
    iterate 7
      go_wp2_with fail
      refine (AWAKE_any _).mono ?_
      rintro e w9 ⟨rfl, hb9⟩
      replace HB := Lib.hid (HB.out.trans (hb9.mono HB.out.size))
      clear hb9
      go_wp2_with fail
      go_ret
      exact ⟨rfl, HB.out⟩
    have HK := Lib.hid (int_ratio x')
    have HL := Lib.hid (int_ratio z')
    have fx := int_few x' (by omega)
    have fz := int_few z' (by omega)
    rw [resP_few fx] at HK
    rw [resP_few fz] at HL
    have HX := Lib.hid (Rt.tx fx)
    have HZ := Lib.hid (Rt.tx fz)
    have OX := Lib.hid (ordS_rt HX.out HR.out)
    have OZ := Lib.hid (ordS_rt HR.out HZ.out)
    have CX := Lib.hid (cmpQ_le FL.out)
    have CZ := Lib.hid (cmpQ_le CL.out)
    obtain ⟨S2, hS2⟩ : ∃ S, txN (x' : Rat) = S := ⟨_, rfl⟩
    obtain ⟨T2, hT2⟩ : ∃ S, txD (x' : Rat) = S := ⟨_, rfl⟩
    obtain ⟨S3, hS3⟩ : ∃ S, txN (z' : Rat) = S := ⟨_, rfl⟩
    obtain ⟨T3, hT3⟩ : ∃ S, txD (z' : Rat) = S := ⟨_, rfl⟩
    rw [hS2, hT2] at HK HX OX
    rw [hS3, hT3] at HL HZ OZ
    obtain ⟨k1, hk1⟩ : ∃ k, cmpQ (x' : Rat) q = k := ⟨_, rfl⟩
    obtain ⟨k2, hk2⟩ : ∃ k, cmpQ q (z' : Rat) = k := ⟨_, rfl⟩
    rw [hk1] at OX CX
    rw [hk2] at OZ CZ
    have z2 : S2.size ≤ maxLen := le_max HX.out.size.1 (by omega)
    have y2 : T2.size ≤ maxLen := le_max HX.out.size.2 (by omega)
    have z3 : S3.size ≤ maxLen := le_max HZ.out.size.1 (by omega)
    have y3 : T3.size ≤ maxLen := le_max HZ.out.size.2 (by omega)
    clear hS2 hT2 hS3 hT3 hk1 hk2 fx fz B1c0 B1c1
    go_upto_region 9 with (fail)
    go_wp2_with fail
    refine (RATIOOF_any x' 1 (by omega) (by omega) (by omega) (by omega) _).mono ?_
    rintro e w5 ⟨rfl, hb5⟩
    rw [HK.out]
    unfold tup3
    dsimp only
    replace B1 := Lib.hid (B1.out.below hb5)
    replace HB := Lib.hid (HB.out.trans (hb5.mono HB.out.size))
    clear hb5
    go_upto_region 10 with (fail)
    obtain ⟨X5, g5, hX, hg, B5, HBX, _⟩ := cell_new w5 28 #[.string S2, .string T2]
    rw [← hX, ← hg]
    replace B1 := Lib.hid (B1.out.below (HBX.out.mono (Nat.le_refl _)))
    replace HB := Lib.hid (HB.out.trans (HBX.out.mono HB.out.size))
    replace B5 : Hid (RBox X5 g5 S2 T2) := B5
    clear hX hg HBX
    go_wp2_with fail
    refine (RATIOOF_any z' 1 (by omega) (by omega) (by omega) (by omega) _).mono ?_
    rintro e w6 ⟨rfl, hb6⟩
    rw [HL.out]
    unfold tup3
    dsimp only
    replace B1 := Lib.hid (B1.out.below hb6)
    replace B5 := Lib.hid (B5.out.below hb6)
    replace HB := Lib.hid (HB.out.trans (hb6.mono HB.out.size))
    clear hb6
    go_upto_region 11 with (fail)
    obtain ⟨X6, g6, hX, hg, B6, HBX, _⟩ := cell_new w6 28 #[.string S3, .string T3]
    rw [← hX, ← hg]
    replace B1 := Lib.hid (B1.out.below (HBX.out.mono (Nat.le_refl _)))
    replace B5 := Lib.hid (B5.out.below (HBX.out.mono (Nat.le_refl _)))
    replace HB := Lib.hid (HB.out.trans (HBX.out.mono HB.out.size))
    replace B6 : Hid (RBox X6 g6 S3 T3) := B6
    clear hX hg HBX
    obtain ⟨B1c0, B1c1, _, _⟩ := two_cells B1.out
    obtain ⟨B5c0, B5c1, _, _⟩ := two_cells B5.out
    go_wp2_with fail
    refine (ORDER_any S2 T2 S T z2 y2 zS zT _).mono ?_
    rintro e w7 ⟨rfl, hb7⟩
    rw [OX.out]
    clear B1c0 B1c1
    clear B5c0 B5c1
    replace B1 := Lib.hid (B1.out.below hb7)
    replace B5 := Lib.hid (B5.out.below hb7)
    replace B6 := Lib.hid (B6.out.below hb7)
    replace HB := Lib.hid (HB.out.trans (hb7.mono HB.out.size))
    clear hb7
    dsimp only
    obtain ⟨B1c0, B1c1, _, _⟩ := two_cells B1.out
    obtain ⟨B6c0, B6c1, _, _⟩ := two_cells B6.out
    go_wp2_with fail
    refine (ORDER_any S T S3 T3 zS zT z3 y3 _).mono ?_
    rintro e w8 ⟨rfl, hb8⟩
    rw [OZ.out]
    clear B1c0 B1c1
    clear B6c0 B6c1
    replace B1 := Lib.hid (B1.out.below hb8)
    replace B6 := Lib.hid (B6.out.below hb8)
    replace HB := Lib.hid (HB.out.trans (hb8.mono HB.out.size))
    clear hb8
    dsimp only
    have c1 : k1 ≤ 0 := CX.out
    have c2 : k2 ≤ 0 := CZ.out
    have c3 : z' - x' ≤ 1 := by have := CF.out; omega
    by_cases he : y' = x'
    · subst he
      go_wp2_with fail
      refine (AWAKE_any _).mono ?_
      rintro e w9 ⟨rfl, hb9⟩
      replace HB := Lib.hid (HB.out.trans (hb9.mono HB.out.size))
      clear hb9
      go_wp2_with fail
      go_ret
      exact ⟨rfl, HB.out⟩
    · have he2 : y' = z' := by
        rcases NR.out with h | h
        · exact absurd h he
        · exact h
      have hq : (y' == x') = false := by simpa using he
      subst he2
      clear he
      go_wp2_with fail
      refine (AWAKE_any _).mono ?_
      rintro e w9 ⟨rfl, hb9⟩
      replace HB := Lib.hid (HB.out.trans (hb9.mono HB.out.size))
      clear hb9
      go_wp2_with fail
      go_ret
      exact ⟨rfl, HB.out⟩
theorem lawRn_walk (a b : Int) (h1 : -9223372036854775808 ≤ a) (h2 : a ≤ 9223372036854775807) (h3 : -9223372036854775808 ≤ b) (h4 : b ≤ 9223372036854775807) (w : World) :
    Calls Tryd.prog 5 #[.int .i64 a, .int .i64 b] w fun e w' => e = .returned (.bool true) ∧ Below w.heap.size w w' := by
  by_cases hb : b = 0
  · subst hb; exact lawRn_zero a h1 h2 w
  · exact lawRn_ok a b h1 h2 h3 h4 hb w
end Go.Proofs.YtcjdmffflepplaaDoor
