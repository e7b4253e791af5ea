/- SumsAreExact, walked. -/
import Derived.Test.YtcjdmffflepplaaDoorCwl
import Derived.Test.YtcjdmffflepplaaDoorAwk
set_option linter.unusedSimpArgs false
set_option linter.unusedVariables false
namespace Go.Proofs.YtcjdmffflepplaaDoor
open Go.RowKit Go.Dw
/-- a box with a ratio -/
def RBox (w : World) (g : Nat) (s t : ByteArray) : Prop := w.heap[g]? = some (.cells #[.string s, .string t] 28 (0, 0))
theorem RBox.below {w w' : World} {g : Nat} {s t : ByteArray} (h : RBox w g s t) (hb : Below w.heap.size w w') : RBox w' g s t := (hb.block g (blk_lt h)).trans h
theorem le_max {n m : Nat} (h : n ≤ m) (hm : m ≤ 1000000) : n ≤ maxLen := by unfold maxLen; omega
set_option maxRecDepth 100000 in
set_option maxHeartbeats 2000000 in
theorem lawSums_err (s1 t1 s2 t2 s3 t3 : ByteArray) (z1 : s1.size ≤ maxLen) (y1 : t1.size ≤ maxLen) (z2 : s2.size ≤ maxLen) (y2 : t2.size ≤ maxLen) (z3 : s3.size ≤ maxLen) (y3 : t3.size ≤ maxLen) (S T S' T' : ByteArray) (f g : Int) (E1 : Hid (sumS s1 t1 s2 t2 = (S, T, f))) (E2 : Hid (sumS s2 t2 s1 t1 = (S', T', g))) (h1 : (f != 0) = true) (h2 : (g != 0) = true) (HO : Hid (chkQ s1 t1 ≠ 0 ∨ chkQ s2 t2 ≠ 0 ∨ f = g)) (w : World) :
    Calls Tryd.prog 4 #[.agg #[.string s1, .string t1], .agg #[.string s2, .string t2], .agg #[.string s3, .string t3]] w fun e w' => e = .returned (.bool true) ∧ Below w.heap.size w w' := by
    obtain ⟨W, gx, hW, hgx, HHW, HB, HSW⟩ := boxes3 w (.cells #[.string s1, .string t1] 28) (.cells #[.string s2, .string t2] 28) (.cells #[.string s3, .string t3] 28)
    have BA : Hid (RBox W gx s1 t1) := HHW.out.1
    have BB : Hid (RBox W (gx + 1) s2 t2) := HHW.out.2.1
    have BC : Hid (RBox W (gx + 1 + 1) s3 t3) := HHW.out.2.2
    clear HSW
    go_enter Tryd.func4, Tryd.ntmps4
    go_upto_region 1 with (fail)
    rw [← hW, ← hgx]
    clear hW hgx HHW
    go_wp2_with fail
    refine (AWAKE_any _).mono ?_
    rintro e w0 ⟨rfl, hb0⟩
    replace BA := Lib.hid (BA.out.below hb0)
    replace BB := Lib.hid (BB.out.below hb0)
    replace BC := Lib.hid (BC.out.below hb0)
    replace HB := Lib.hid (HB.out.trans (hb0.mono HB.out.size))
    clear hb0
    obtain ⟨BAc0, BAc1, _, _⟩ := two_cells BA.out
    obtain ⟨BBc0, BBc1, _, _⟩ := two_cells BB.out
    go_wp2_with fail
    refine (SUM_any s1 t1 s2 t2 z1 y1 z2 y2 _).mono ?_
    rintro e w1 ⟨rfl, hb1⟩
    rw [E1.out]
    unfold tup3
    dsimp only
    clear BAc0 BAc1
    clear BBc0 BBc1
    replace BA := Lib.hid (BA.out.below hb1)
    replace BB := Lib.hid (BB.out.below hb1)
    replace BC := Lib.hid (BC.out.below hb1)
    replace HB := Lib.hid (HB.out.trans (hb1.mono HB.out.size))
    clear hb1
    go_upto_region 4 with (fail)
    obtain ⟨X1, g1, hX, hg, B1, HBX, _⟩ := cell_new w1 28 #[.string S, .string T]
    rw [← hX, ← hg]
    replace BA := Lib.hid (BA.out.below (HBX.out.mono (Nat.le_refl _)))
    replace BB := Lib.hid (BB.out.below (HBX.out.mono (Nat.le_refl _)))
    replace BC := Lib.hid (BC.out.below (HBX.out.mono (Nat.le_refl _)))
    replace HB := Lib.hid (HB.out.trans (HBX.out.mono HB.out.size))
    replace B1 : Hid (RBox X1 g1 S T) := B1
    clear hX hg HBX
    obtain ⟨BAc0, BAc1, _, _⟩ := two_cells BA.out
    obtain ⟨BBc0, BBc1, _, _⟩ := two_cells BB.out
    go_wp2_with fail
    refine (SUM_any s2 t2 s1 t1 z2 y2 z1 y1 _).mono ?_
    rintro e w2 ⟨rfl, hb2⟩
    rw [E2.out]
    unfold tup3
    dsimp only
    clear BAc0 BAc1
    clear BBc0 BBc1
    replace BA := Lib.hid (BA.out.below hb2)
    replace BB := Lib.hid (BB.out.below hb2)
    replace BC := Lib.hid (BC.out.below hb2)
    replace B1 := Lib.hid (B1.out.below hb2)
    replace HB := Lib.hid (HB.out.trans (hb2.mono HB.out.size))
    clear hb2
    go_upto_region 5 with (fail)
    obtain ⟨X2, g2, hX, hg, B2, HBX, _⟩ := cell_new w2 28 #[.string S', .string T']
    rw [← hX, ← hg]
    replace BA := Lib.hid (BA.out.below (HBX.out.mono (Nat.le_refl _)))
    replace BB := Lib.hid (BB.out.below (HBX.out.mono (Nat.le_refl _)))
    replace BC := Lib.hid (BC.out.below (HBX.out.mono (Nat.le_refl _)))
    replace B1 := Lib.hid (B1.out.below (HBX.out.mono (Nat.le_refl _)))
    replace HB := Lib.hid (HB.out.trans (HBX.out.mono HB.out.size))
    replace B2 : Hid (RBox X2 g2 S' T') := B2
    clear hX hg HBX
    obtain ⟨k1, hk1⟩ : ∃ k, chkQ s1 t1 = k := ⟨_, rfl⟩
    obtain ⟨k2, hk2⟩ : ∃ k, chkQ s2 t2 = k := ⟨_, rfl⟩
    have K1 := Lib.hid hk1
    have K2 := Lib.hid hk2
    rw [hk1, hk2] at HO
    clear hk1 hk2
    go_upto_region 6 with (fail)
    obtain ⟨BAc0, BAc1, _, _⟩ := two_cells BA.out
    obtain ⟨BBc0, BBc1, _, _⟩ := two_cells BB.out
    go_wp2_with fail
    refine (CHECKRATIO_any s1 t1 z1 y1 _).mono ?_
    rintro e w3 ⟨rfl, hb3⟩
    rw [K1.out]
    clear BAc0 BAc1
    clear BBc0 BBc1
    replace BA := Lib.hid (BA.out.below hb3)
    replace BB := Lib.hid (BB.out.below hb3)
    replace HB := Lib.hid (HB.out.trans (hb3.mono HB.out.size))
    clear hb3
    by_cases hk1 : k1 = 0
    · subst hk1
      obtain ⟨BBc0, BBc1, _, _⟩ := two_cells BB.out
      go_wp2_with fail
      refine (CHECKRATIO_any s2 t2 z2 y2 _).mono ?_
      rintro e w4 ⟨rfl, hb4⟩
      rw [K2.out]
      clear BBc0 BBc1
      replace BA := Lib.hid (BA.out.below hb4)
      replace BB := Lib.hid (BB.out.below hb4)
      replace HB := Lib.hid (HB.out.trans (hb4.mono HB.out.size))
      clear hb4
      by_cases hk2 : k2 = 0
      · subst hk2
        obtain rfl : f = g := by
          rcases HO.out with h | h | h
          · exact absurd rfl h
          · exact absurd rfl h
          · exact h
        go_wp2_with fail
        go_ret
        exact ⟨rfl, HB.out⟩
      · have hk3 : (k2 != 0) = true := by simpa using hk2
        clear hk2
        go_wp2_with fail
        go_ret
        exact ⟨rfl, HB.out⟩
    · have hk3 : (k1 != 0) = true := by simpa using hk1
      clear hk1
      go_wp2_with fail
      go_ret
      exact ⟨rfl, HB.out⟩
set_option maxRecDepth 100000 in
set_option maxHeartbeats 8000000 in
theorem lawSums_ok (s1 t1 s2 t2 s3 t3 : ByteArray) (z1 : s1.size ≤ maxLen) (y1 : t1.size ≤ maxLen) (z2 : s2.size ≤ maxLen) (y2 : t2.size ≤ maxLen) (z3 : s3.size ≤ maxLen) (y3 : t3.size ≤ maxLen) (q r : Rat) (HA : Hid (Rt s1 t1 q)) (HC : Hid (Rt s2 t2 r)) (S T : ByteArray) (HS : Hid (Rt S T (q + r))) (E1 : Hid (sumS s1 t1 s2 t2 = (S, T, 0))) (E2 : Hid (sumS s2 t2 s1 t1 = (S, T, 0))) (w : World) :
    Calls Tryd.prog 4 #[.agg #[.string s1, .string t1], .agg #[.string s2, .string t2], .agg #[.string s3, .string t3]] w fun e w' => e = .returned (.bool true) ∧ Below w.heap.size w w' := by
    have zS : S.size ≤ maxLen := le_max HS.out.size.1 (by omega)
    have zT : T.size ≤ maxLen := le_max HS.out.size.2 (by omega)
    obtain ⟨W, gx, hW, hgx, HHW, HB, HSW⟩ := boxes3 w (.cells #[.string s1, .string t1] 28) (.cells #[.string s2, .string t2] 28) (.cells #[.string s3, .string t3] 28)
    have BA : Hid (RBox W gx s1 t1) := HHW.out.1
    have BB : Hid (RBox W (gx + 1) s2 t2) := HHW.out.2.1
    have BC : Hid (RBox W (gx + 1 + 1) s3 t3) := HHW.out.2.2
    clear HSW
    go_enter Tryd.func4, Tryd.ntmps4
    go_upto_region 1 with (fail)
    rw [← hW, ← hgx]
    clear hW hgx HHW
    go_wp2_with fail
    refine (AWAKE_any _).mono ?_
    rintro e w0 ⟨rfl, hb0⟩
    replace BA := Lib.hid (BA.out.below hb0)
    replace BB := Lib.hid (BB.out.below hb0)
    replace BC := Lib.hid (BC.out.below hb0)
    replace HB := Lib.hid (HB.out.trans (hb0.mono HB.out.size))
    clear hb0
    obtain ⟨BAc0, BAc1, _, _⟩ := two_cells BA.out
    obtain ⟨BBc0, BBc1, _, _⟩ := two_cells BB.out
    go_wp2_with fail
    refine (SUM_any s1 t1 s2 t2 z1 y1 z2 y2 _).mono ?_
    rintro e w1 ⟨rfl, hb1⟩
    rw [E1.out]
    unfold tup3
    dsimp only
    clear BAc0 BAc1
    clear BBc0 BBc1
    replace BA := Lib.hid (BA.out.below hb1)
    replace BB := Lib.hid (BB.out.below hb1)
    replace BC := Lib.hid (BC.out.below hb1)
    replace HB := Lib.hid (HB.out.trans (hb1.mono HB.out.size))
    clear hb1
    go_upto_region 4 with (fail)
    obtain ⟨X1, g1, hX, hg, B1, HBX, _⟩ := cell_new w1 28 #[.string S, .string T]
    rw [← hX, ← hg]
    replace BA := Lib.hid (BA.out.below (HBX.out.mono (Nat.le_refl _)))
    replace BB := Lib.hid (BB.out.below (HBX.out.mono (Nat.le_refl _)))
    replace BC := Lib.hid (BC.out.below (HBX.out.mono (Nat.le_refl _)))
    replace HB := Lib.hid (HB.out.trans (HBX.out.mono HB.out.size))
    replace B1 : Hid (RBox X1 g1 S T) := B1
    clear hX hg HBX
    obtain ⟨BAc0, BAc1, _, _⟩ := two_cells BA.out
    obtain ⟨BBc0, BBc1, _, _⟩ := two_cells BB.out
    go_wp2_with fail
    refine (SUM_any s2 t2 s1 t1 z2 y2 z1 y1 _).mono ?_
    rintro e w2 ⟨rfl, hb2⟩
    rw [E2.out]
    unfold tup3
    dsimp only
    clear BAc0 BAc1
    clear BBc0 BBc1
    replace BA := Lib.hid (BA.out.below hb2)
    replace BB := Lib.hid (BB.out.below hb2)
    replace BC := Lib.hid (BC.out.below hb2)
    replace B1 := Lib.hid (B1.out.below hb2)
    replace HB := Lib.hid (HB.out.trans (hb2.mono HB.out.size))
    clear hb2
    go_upto_region 5 with (fail)
    obtain ⟨X2, g2, hX, hg, B2, HBX, _⟩ := cell_new w2 28 #[.string S, .string T]
    rw [← hX, ← hg]
    replace BA := Lib.hid (BA.out.below (HBX.out.mono (Nat.le_refl _)))
    replace BB := Lib.hid (BB.out.below (HBX.out.mono (Nat.le_refl _)))
    replace BC := Lib.hid (BC.out.below (HBX.out.mono (Nat.le_refl _)))
    replace B1 := Lib.hid (B1.out.below (HBX.out.mono (Nat.le_refl _)))
    replace HB := Lib.hid (HB.out.trans (HBX.out.mono HB.out.size))
    replace B2 : Hid (RBox X2 g2 S T) := B2
    clear hX hg HBX
    obtain ⟨⟨S3, T3, f3⟩, he3⟩ : ∃ p, prodS S T s3 t3 = p := ⟨_, rfl⟩
    have E3 := Lib.hid he3
    clear he3
    obtain ⟨⟨S4, T4, f4⟩, he4⟩ : ∃ p, prodS s1 t1 s3 t3 = p := ⟨_, rfl⟩
    have E4 := Lib.hid he4
    clear he4
    obtain ⟨⟨S5, T5, f5⟩, he5⟩ : ∃ p, prodS s2 t2 s3 t3 = p := ⟨_, rfl⟩
    have E5 := Lib.hid he5
    clear he5
    obtain ⟨B1c0, B1c1, _, _⟩ := two_cells B1.out
    obtain ⟨B2c0, B2c1, _, _⟩ := two_cells B2.out
    go_upto_region 9 with (fail)
    clear B1c0 B1c1
    clear B2c0 B2c1
    obtain ⟨B1c0, B1c1, _, _⟩ := two_cells B1.out
    obtain ⟨BCc0, BCc1, _, _⟩ := two_cells BC.out
    go_wp2_with fail
    refine (PRODUCT_any S T s3 t3 zS zT z3 y3 _).mono ?_
    rintro e w3 ⟨rfl, hb3⟩
    rw [E3.out]
    unfold tup3
    dsimp only
    clear B1c0 B1c1
    clear BCc0 BCc1
    replace BA := Lib.hid (BA.out.below hb3)
    replace BB := Lib.hid (BB.out.below hb3)
    replace BC := Lib.hid (BC.out.below hb3)
    replace B1 := Lib.hid (B1.out.below hb3)
    replace HB := Lib.hid (HB.out.trans (hb3.mono HB.out.size))
    clear hb3
    go_upto_region 10 with (fail)
    obtain ⟨X3, g3, hX, hg, B3, HBX, _⟩ := cell_new w3 28 #[.string S3, .string T3]
    rw [← hX, ← hg]
    replace BA := Lib.hid (BA.out.below (HBX.out.mono (Nat.le_refl _)))
    replace BB := Lib.hid (BB.out.below (HBX.out.mono (Nat.le_refl _)))
    replace BC := Lib.hid (BC.out.below (HBX.out.mono (Nat.le_refl _)))
    replace B1 := Lib.hid (B1.out.below (HBX.out.mono (Nat.le_refl _)))
    replace HB := Lib.hid (HB.out.trans (HBX.out.mono HB.out.size))
    replace B3 : Hid (RBox X3 g3 S3 T3) := B3
    clear hX hg HBX
    obtain ⟨BAc0, BAc1, _, _⟩ := two_cells BA.out
    obtain ⟨BCc0, BCc1, _, _⟩ := two_cells BC.out
    go_wp2_with fail
    refine (PRODUCT_any s1 t1 s3 t3 z1 y1 z3 y3 _).mono ?_
    rintro e w4 ⟨rfl, hb4⟩
    rw [E4.out]
    unfold tup3
    dsimp only
    clear BAc0 BAc1
    clear BCc0 BCc1
    replace BA := Lib.hid (BA.out.below hb4)
    replace BB := Lib.hid (BB.out.below hb4)
    replace BC := Lib.hid (BC.out.below hb4)
    replace B1 := Lib.hid (B1.out.below hb4)
    replace B3 := Lib.hid (B3.out.below hb4)
    replace HB := Lib.hid (HB.out.trans (hb4.mono HB.out.size))
    clear hb4
    go_upto_region 11 with (fail)
    obtain ⟨X4, g4, hX, hg, B4, HBX, _⟩ := cell_new w4 28 #[.string S4, .string T4]
    rw [← hX, ← hg]
    replace BA := Lib.hid (BA.out.below (HBX.out.mono (Nat.le_refl _)))
    replace BB := Lib.hid (BB.out.below (HBX.out.mono (Nat.le_refl _)))
    replace BC := Lib.hid (BC.out.below (HBX.out.mono (Nat.le_refl _)))
    replace B1 := Lib.hid (B1.out.below (HBX.out.mono (Nat.le_refl _)))
    replace B3 := Lib.hid (B3.out.below (HBX.out.mono (Nat.le_refl _)))
    replace HB := Lib.hid (HB.out.trans (HBX.out.mono HB.out.size))
    replace B4 : Hid (RBox X4 g4 S4 T4) := B4
    clear hX hg HBX
    obtain ⟨BBc0, BBc1, _, _⟩ := two_cells BB.out
    obtain ⟨BCc0, BCc1, _, _⟩ := two_cells BC.out
    go_wp2_with fail
    refine (PRODUCT_any s2 t2 s3 t3 z2 y2 z3 y3 _).mono ?_
    rintro e w5 ⟨rfl, hb5⟩
    rw [E5.out]
    unfold tup3
    dsimp only
    clear BBc0 BBc1
    clear BCc0 BCc1
    replace BA := Lib.hid (BA.out.below hb5)
    replace BB := Lib.hid (BB.out.below hb5)
    replace BC := Lib.hid (BC.out.below hb5)
    replace B1 := Lib.hid (B1.out.below hb5)
    replace B3 := Lib.hid (B3.out.below hb5)
    replace B4 := Lib.hid (B4.out.below hb5)
    replace HB := Lib.hid (HB.out.trans (hb5.mono HB.out.size))
    clear hb5
    go_upto_region 12 with (fail)
    obtain ⟨X5, g5, hX, hg, B5, HBX, _⟩ := cell_new w5 28 #[.string S5, .string T5]
    rw [← hX, ← hg]
    replace BA := Lib.hid (BA.out.below (HBX.out.mono (Nat.le_refl _)))
    replace BB := Lib.hid (BB.out.below (HBX.out.mono (Nat.le_refl _)))
    replace BC := Lib.hid (BC.out.below (HBX.out.mono (Nat.le_refl _)))
    replace B1 := Lib.hid (B1.out.below (HBX.out.mono (Nat.le_refl _)))
    replace B3 := Lib.hid (B3.out.below (HBX.out.mono (Nat.le_refl _)))
    replace B4 := Lib.hid (B4.out.below (HBX.out.mono (Nat.le_refl _)))
    replace HB := Lib.hid (HB.out.trans (HBX.out.mono HB.out.size))
    replace B5 : Hid (RBox X5 g5 S5 T5) := B5
    clear hX hg HBX
    by_cases hz3 : f3 = 0
    rotate_left
    · have hq : (f3 != 0) = true := by simpa using hz3
      clear hz3
      go_wp2_with fail
      go_ret
      exact ⟨rfl, HB.out⟩
    subst hz3
    by_cases hz4 : f4 = 0
    rotate_left
    · have hq : (f4 != 0) = true := by simpa using hz4
      clear hz4
      go_wp2_with fail
      go_ret
      exact ⟨rfl, HB.out⟩
    subst hz4
    by_cases hz5 : f5 = 0
    rotate_left
    · have hq : (f5 != 0) = true := by simpa using hz5
      clear hz5
      go_wp2_with fail
      go_ret
      exact ⟨rfl, HB.out⟩
    subst hz5
    have HD := Lib.hid (sums_dist HA.out HC.out HS.out (u := s3) (v := t3) (by rw [E3.out]) (by rw [E4.out]) (by rw [E5.out]))
    rw [E3.out, E4.out, E5.out] at HD
    dsimp only at HD
    have z4 : S4.size ≤ maxLen := le_max HD.out.2.1 (by omega)
    have y4 : T4.size ≤ maxLen := le_max HD.out.2.2.1 (by omega)
    have z5 : S5.size ≤ maxLen := le_max HD.out.2.2.2.1 (by omega)
    have y5 : T5.size ≤ maxLen := le_max HD.out.2.2.2.2 (by omega)
    go_upto_region 14 with (fail)
    obtain ⟨B4c0, B4c1, _, _⟩ := two_cells B4.out
    obtain ⟨B5c0, B5c1, _, _⟩ := two_cells B5.out
    go_wp2_with fail
    refine (SUM_any S4 T4 S5 T5 z4 y4 z5 y5 _).mono ?_
    rintro e w6 ⟨rfl, hb6⟩
    rw [HD.out.1]
    unfold tup3
    dsimp only
    clear B4c0 B4c1
    clear B5c0 B5c1
    replace BA := Lib.hid (BA.out.below hb6)
    replace B3 := Lib.hid (B3.out.below hb6)
    replace HB := Lib.hid (HB.out.trans (hb6.mono HB.out.size))
    clear hb6
    go_upto_region 15 with (fail)
    obtain ⟨X6, g6, hX, hg, B6, HBX, _⟩ := cell_new w6 28 #[.string S3, .string T3]
    rw [← hX, ← hg]
    replace BA := Lib.hid (BA.out.below (HBX.out.mono (Nat.le_refl _)))
    replace B3 := Lib.hid (B3.out.below (HBX.out.mono (Nat.le_refl _)))
    replace HB := Lib.hid (HB.out.trans (HBX.out.mono HB.out.size))
    replace B6 : Hid (RBox X6 g6 S3 T3) := B6
    clear hX hg HBX
    obtain ⟨⟨S7, T7, f7⟩, he7⟩ : ∃ p, invS s1 t1 = p := ⟨_, rfl⟩
    have HI := Lib.hid (sums_inv HA.out)
    rw [he7] at HI
    dsimp only at HI
    have E7 := Lib.hid he7
    clear he7
    obtain ⟨B3c0, B3c1, _, _⟩ := two_cells B3.out
    obtain ⟨B6c0, B6c1, _, _⟩ := two_cells B6.out
    go_upto_region 17 with (fail)
    clear B3c0 B3c1
    clear B6c0 B6c1
    obtain ⟨BAc0, BAc1, _, _⟩ := two_cells BA.out
    go_wp2_with fail
    refine (INVERSE_any s1 t1 z1 y1 _).mono ?_
    rintro e w7 ⟨rfl, hb7⟩
    rw [E7.out]
    unfold tup3
    dsimp only
    clear BAc0 BAc1
    replace BA := Lib.hid (BA.out.below hb7)
    replace HB := Lib.hid (HB.out.trans (hb7.mono HB.out.size))
    clear hb7
    go_upto_region 18 with (fail)
    obtain ⟨X7, g7, hX, hg, B7, HBX, _⟩ := cell_new w7 28 #[.string S7, .string T7]
    rw [← hX, ← hg]
    replace BA := Lib.hid (BA.out.below (HBX.out.mono (Nat.le_refl _)))
    replace HB := Lib.hid (HB.out.trans (HBX.out.mono HB.out.size))
    replace B7 : Hid (RBox X7 g7 S7 T7) := B7
    clear hX hg HBX
    rcases HI.out with ⟨h7, hs⟩ | ⟨h7, k1, k2, hp⟩
    · have hq : (f7 != 0) = true := by simpa using h7
      subst hs
      clear h7
      obtain ⟨BAc0, BAc1, _, _⟩ := two_cells BA.out
      go_wp2_with fail
      go_ret
      exact ⟨rfl, HB.out⟩
    · subst h7
      have HP := Lib.hid hp
      clear hp
      have z7 : S7.size ≤ maxLen := le_max k1 (by omega)
      have y7 : T7.size ≤ maxLen := le_max k2 (by omega)
      go_upto_region 20 with (fail)
      obtain ⟨BAc0, BAc1, _, _⟩ := two_cells BA.out
      obtain ⟨B7c0, B7c1, _, _⟩ := two_cells B7.out
      go_wp2_with fail
      refine (PRODUCT_any s1 t1 S7 T7 z1 y1 z7 y7 _).mono ?_
      rintro e w8 ⟨rfl, hb8⟩
      rw [HP.out]
      unfold tup3
      dsimp only
      clear BAc0 BAc1
      clear B7c0 B7c1
      replace BA := Lib.hid (BA.out.below hb8)
      replace HB := Lib.hid (HB.out.trans (hb8.mono HB.out.size))
      clear hb8
      go_upto_region 21 with (fail)
      obtain ⟨X8, g8, hX, hg, B8, HBX, _⟩ := cell_new w8 28 #[.string ⟨#[49]⟩, .string ⟨#[49]⟩]
      rw [← hX, ← hg]
      replace BA := Lib.hid (BA.out.below (HBX.out.mono (Nat.le_refl _)))
      replace HB := Lib.hid (HB.out.trans (HBX.out.mono HB.out.size))
      replace B8 : Hid (RBox X8 g8 ⟨#[49]⟩ ⟨#[49]⟩) := B8
      clear hX hg HBX
      obtain ⟨B8c0, B8c1, _, _⟩ := two_cells B8.out
      go_wp2_with fail
      go_ret
      exact ⟨rfl, HB.out⟩
theorem lawSums_walk (s1 t1 s2 t2 s3 t3 : ByteArray) (z1 : s1.size ≤ maxLen) (y1 : t1.size ≤ maxLen) (z2 : s2.size ≤ maxLen) (y2 : t2.size ≤ maxLen) (z3 : s3.size ≤ maxLen) (y3 : t3.size ≤ maxLen) (w : World) :
    Calls Tryd.prog 4 #[.agg #[.string s1, .string t1], .agg #[.string s2, .string t2], .agg #[.string s3, .string t3]] w fun e w' => e = .returned (.bool true) ∧ Below w.heap.size w w' := by
  rcases sums_comm s1 t1 s2 t2 with ⟨q, r, ha, hc, hf, e1, e2⟩ | ⟨h1, h2, h3⟩
  · exact lawSums_ok s1 t1 s2 t2 s3 t3 z1 y1 z2 y2 z3 y3 q r ha hc _ _ (Rt.tx hf) e1 e2 w
  · obtain ⟨⟨S, T, f⟩, hs⟩ : ∃ p, sumS s1 t1 s2 t2 = p := ⟨_, rfl⟩
    obtain ⟨⟨S', T', g⟩, hs'⟩ : ∃ p, sumS s2 t2 s1 t1 = p := ⟨_, rfl⟩
    rw [hs] at h1 h3
    rw [hs'] at h2 h3
    exact lawSums_err s1 t1 s2 t2 s3 t3 z1 y1 z2 y2 z3 y3 S T S' T' f g hs hs' (by simpa using h1) (by simpa using h2) h3 w
end Go.Proofs.YtcjdmffflepplaaDoor
