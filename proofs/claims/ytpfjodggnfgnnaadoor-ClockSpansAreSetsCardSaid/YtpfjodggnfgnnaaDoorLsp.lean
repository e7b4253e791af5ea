/- ClockSpansMatchSpec, walked. -/
import Derived.Test.YtpfjodggnfgnnaaDoorSet
import Derived.Test.YtpfjodggnfgnnaaDoorAwk
set_option linter.unusedSimpArgs false
set_option linter.unusedVariables false
namespace Go.Proofs.YtpfjodggnfgnnaaDoor
open Go.RowKit Go.Dw
theorem set_len (keep : Bool → Bool → Bool) (a b : List Pr) : (setS keep a b).1.length ≤ 1000 := by
  unfold setS
  split
  · simp
  · split
    · simp
    · split
      · simp
      · rename_i h; show (sweepS keep a b).length ≤ 1000; omega
set_option maxRecDepth 100000 in
set_option maxHeartbeats 4000000 in
theorem lawSp_walk (A A' : Option Addr) (n c m0 d : Nat) (a b : List Pr) (w : World) (ha : Hid (PrsAt w w.heap.size A n a)) (hb : Hid (PrsAt w w.heap.size A' m0 b)) :
    Calls Tryd.prog 3 #[.slice A n c, .slice A' m0 d] w fun e w' => e = .returned (.bool true) ∧ Below w.heap.size w w' := by
  have hlJ := set_len (fun x y => or x y) a b
  obtain ⟨⟨lJ, fJ⟩, hJ⟩ : ∃ p, setS (fun x y => or x y) a b = p := ⟨_, rfl⟩
  have HJ := Lib.hid hJ
  rw [hJ] at hlJ
  dsimp only at hlJ
  clear hJ
  have hdJ : (fJ != fJ) = false := by simp
  have hqJ : (fJ == fJ) = true := by simp
  have hlM := set_len (fun x y => and x y) a b
  obtain ⟨⟨lM, fM⟩, hM⟩ : ∃ p, setS (fun x y => and x y) a b = p := ⟨_, rfl⟩
  have HM := Lib.hid hM
  rw [hM] at hlM
  dsimp only at hlM
  clear hM
  have hdM : (fM != fM) = false := by simp
  have hqM : (fM == fM) = true := by simp
  have hlW := set_len (fun x y => and x (not y)) a b
  obtain ⟨⟨lW, fW⟩, hW⟩ : ∃ p, setS (fun x y => and x (not y)) a b = p := ⟨_, rfl⟩
  have HW := Lib.hid hW
  rw [hW] at hlW
  dsimp only at hlW
  clear hW
  have hdW : (fW != fW) = false := by simp
  have hqW : (fW == fW) = true := by simp
  obtain ⟨ck, hck⟩ : ∃ x, chkSp a = x := ⟨_, rfl⟩
  have HCK := Lib.hid hck
  have hdc : (ck != ck) = false := by simp
  obtain ⟨⟨ml, mf⟩, hml⟩ : ∃ p, lenS a = p := ⟨_, rfl⟩
  have HML := Lib.hid hml
  have hdm : (ml == ml) = true := by simp
  have hdm2 : (mf == mf) = true := by simp
  clear hck hml
  have HB0 := Lib.hid (Below.refl w.heap.size w)
  have hs0 : w.heap.size ≤ w.heap.size := Nat.le_refl _
  go_enter Tryd.func3, Tryd.ntmps3
  go_wp2_with fail
  refine (CJOIN_any A A' n c m0 d a b _ w.heap.size hs0 (Lib.hid (ha.out.below HB0.out (Nat.le_refl _))) (Lib.hid (hb.out.below HB0.out (Nat.le_refl _)))).mono ?_
  rw [HJ.out]
  rintro e w1 ⟨v1, rfl, ho1, hb1⟩
  have HB1 := Lib.hid (HB0.out.trans (hb1.mono hs0))
  dsimp only at ho1 ⊢
  obtain ⟨A1, c1, rfl, hc1, hm1⟩ := ho1.len
  have P1 := Lib.hid ho1.at_
  have hs1 := HB1.out.size
  clear hb1 ho1
  go_wp2_with fail
  refine (R1JOIN_any A A' n c m0 d a b _ w.heap.size hs1 (Lib.hid (ha.out.below HB1.out (Nat.le_refl _))) (Lib.hid (hb.out.below HB1.out (Nat.le_refl _)))).mono ?_
  rw [HJ.out]
  rintro e w2 ⟨v2, rfl, ho2, hb2⟩
  have HB2 := Lib.hid (HB1.out.trans (hb2.mono hs1))
  dsimp only at ho2 ⊢
  obtain ⟨A2, c2, rfl, hc2, hm2⟩ := ho2.len
  have P2 := Lib.hid ho2.at_
  replace P1 := Lib.hid (P1.out.to hb2 (Nat.le_refl _) hb2.size)
  have hs2 := HB2.out.size
  clear hb2 ho2
  go_wp2_with fail
  refine (CCHECKSPANS_any A n c a _ w.heap.size hs2 (Lib.hid (ha.out.below HB2.out (Nat.le_refl _)))).mono ?_
  rw [HCK.out]
  rintro e w3 ⟨rfl, hb3⟩
  have HB3 := Lib.hid (HB2.out.trans (hb3.mono hs2))
  replace P1 := Lib.hid (P1.out.to hb3 (Nat.le_refl _) hb3.size)
  replace P2 := Lib.hid (P2.out.to hb3 (Nat.le_refl _) hb3.size)
  have hs3 := HB3.out.size
  clear hb3
  go_wp2_with fail
  refine (RCHECKSPANS_any A n c a _ w.heap.size hs3 (Lib.hid (ha.out.below HB3.out (Nat.le_refl _)))).mono ?_
  rw [HCK.out]
  rintro e w4 ⟨rfl, hb4⟩
  have HB4 := Lib.hid (HB3.out.trans (hb4.mono hs3))
  replace P1 := Lib.hid (P1.out.to hb4 (Nat.le_refl _) hb4.size)
  replace P2 := Lib.hid (P2.out.to hb4 (Nat.le_refl _) hb4.size)
  have hs4 := HB4.out.size
  clear hb4
  go_wp2_with fail
  refine (SPEQUAL_same A1 A2 lJ.length c1 c2 lJ (by omega) _ w4.heap.size (Nat.le_refl _) ⟨hc1, hm1⟩ ⟨hc2, hm2⟩ P1 P2).mono ?_
  rintro e w5 ⟨rfl, hb5⟩
  have HB5 := Lib.hid (HB4.out.trans (hb5.mono hs4))
  replace P1 := Lib.hid (P1.out.to hb5 (Nat.le_refl _) hb5.size)
  replace P2 := Lib.hid (P2.out.to hb5 (Nat.le_refl _) hb5.size)
  have hs5 := HB5.out.size
  clear hb5
  go_wp2_with fail
  refine (CMEET_any A A' n c m0 d a b _ w.heap.size hs5 (Lib.hid (ha.out.below HB5.out (Nat.le_refl _))) (Lib.hid (hb.out.below HB5.out (Nat.le_refl _)))).mono ?_
  rw [HM.out]
  rintro e w6 ⟨v6, rfl, ho6, hb6⟩
  have HB6 := Lib.hid (HB5.out.trans (hb6.mono hs5))
  dsimp only at ho6 ⊢
  obtain ⟨A6, c6, rfl, hc6, hm6⟩ := ho6.len
  have P6 := Lib.hid ho6.at_
  have hs6 := HB6.out.size
  clear hb6 ho6
  go_wp2_with fail
  refine (R1MEET_any A A' n c m0 d a b _ w.heap.size hs6 (Lib.hid (ha.out.below HB6.out (Nat.le_refl _))) (Lib.hid (hb.out.below HB6.out (Nat.le_refl _)))).mono ?_
  rw [HM.out]
  rintro e w7 ⟨v7, rfl, ho7, hb7⟩
  have HB7 := Lib.hid (HB6.out.trans (hb7.mono hs6))
  dsimp only at ho7 ⊢
  obtain ⟨A7, c7, rfl, hc7, hm7⟩ := ho7.len
  have P7 := Lib.hid ho7.at_
  replace P6 := Lib.hid (P6.out.to hb7 (Nat.le_refl _) hb7.size)
  have hs7 := HB7.out.size
  clear hb7 ho7
  go_wp2_with fail
  refine (SPEQUAL_same A6 A7 lM.length c6 c7 lM (by omega) _ w7.heap.size (Nat.le_refl _) ⟨hc6, hm6⟩ ⟨hc7, hm7⟩ P6 P7).mono ?_
  rintro e w8 ⟨rfl, hb8⟩
  have HB8 := Lib.hid (HB7.out.trans (hb8.mono hs7))
  replace P6 := Lib.hid (P6.out.to hb8 (Nat.le_refl _) hb8.size)
  replace P7 := Lib.hid (P7.out.to hb8 (Nat.le_refl _) hb8.size)
  have hs8 := HB8.out.size
  clear hb8
  go_wp2_with fail
  refine (CWITHOUT_any A A' n c m0 d a b _ w.heap.size hs8 (Lib.hid (ha.out.below HB8.out (Nat.le_refl _))) (Lib.hid (hb.out.below HB8.out (Nat.le_refl _)))).mono ?_
  rw [HW.out]
  rintro e w9 ⟨v9, rfl, ho9, hb9⟩
  have HB9 := Lib.hid (HB8.out.trans (hb9.mono hs8))
  dsimp only at ho9 ⊢
  obtain ⟨A9, c9, rfl, hc9, hm9⟩ := ho9.len
  have P9 := Lib.hid ho9.at_
  have hs9 := HB9.out.size
  clear hb9 ho9
  go_wp2_with fail
  refine (R1WITHOUT_any A A' n c m0 d a b _ w.heap.size hs9 (Lib.hid (ha.out.below HB9.out (Nat.le_refl _))) (Lib.hid (hb.out.below HB9.out (Nat.le_refl _)))).mono ?_
  rw [HW.out]
  rintro e w10 ⟨v10, rfl, ho10, hb10⟩
  have HB10 := Lib.hid (HB9.out.trans (hb10.mono hs9))
  dsimp only at ho10 ⊢
  obtain ⟨A10, c10, rfl, hc10, hm10⟩ := ho10.len
  have P10 := Lib.hid ho10.at_
  replace P9 := Lib.hid (P9.out.to hb10 (Nat.le_refl _) hb10.size)
  have hs10 := HB10.out.size
  clear hb10 ho10
  go_wp2_with fail
  refine (CLENGTH_any A n c a _ w.heap.size hs10 (Lib.hid (ha.out.below HB10.out (Nat.le_refl _)))).mono ?_
  rw [HML.out]
  rintro e w11 ⟨rfl, hb11⟩
  have HB11 := Lib.hid (HB10.out.trans (hb11.mono hs10))
  replace P9 := Lib.hid (P9.out.to hb11 (Nat.le_refl _) hb11.size)
  replace P10 := Lib.hid (P10.out.to hb11 (Nat.le_refl _) hb11.size)
  have hs11 := HB11.out.size
  clear hb11
  go_wp2_with fail
  refine (R1LENGTH_any A n c a _ w.heap.size hs11 (Lib.hid (ha.out.below HB11.out (Nat.le_refl _)))).mono ?_
  rw [HML.out]
  rintro e w12 ⟨rfl, hb12⟩
  have HB12 := Lib.hid (HB11.out.trans (hb12.mono hs11))
  replace P9 := Lib.hid (P9.out.to hb12 (Nat.le_refl _) hb12.size)
  replace P10 := Lib.hid (P10.out.to hb12 (Nat.le_refl _) hb12.size)
  have hs12 := HB12.out.size
  clear hb12
  go_wp2_with fail
  refine (SPEQUAL_same A9 A10 lW.length c9 c10 lW (by omega) _ w12.heap.size (Nat.le_refl _) ⟨hc9, hm9⟩ ⟨hc10, hm10⟩ P9 P10).mono ?_
  rintro e w13 ⟨rfl, hb13⟩
  have HB13 := Lib.hid (HB12.out.trans (hb13.mono hs12))
  replace P9 := Lib.hid (P9.out.to hb13 (Nat.le_refl _) hb13.size)
  replace P10 := Lib.hid (P10.out.to hb13 (Nat.le_refl _) hb13.size)
  have hs13 := HB13.out.size
  clear hb13
  go_wp2_with fail
  refine (AWAKE_any _).mono ?_
  rintro e w14 ⟨rfl, hb14⟩
  have HB14 := Lib.hid (HB13.out.trans (hb14.mono hs13))
  have hs14 := HB14.out.size
  clear hb14
  go_wp2_with fail
  go_ret
  exact ⟨rfl, HB14.out⟩
end Go.Proofs.YtpfjodggnfgnnaaDoor
