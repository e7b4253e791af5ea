/- ClockSpansAreSets, walked. -/
import Derived.Test.YtpfjodggnfgnnaaDoorLsp
set_option linter.unusedSimpArgs false
set_option linter.unusedVariables false
namespace Go.Proofs.YtpfjodggnfgnnaaDoor
open Go.RowKit Go.Dw
theorem len_bd (l : List Pr) : -20000000000000000 ≤ (lenS l).1 ∧ (lenS l).1 ≤ 20000000000000000 := by
  unfold lenS
  split
  · simp
  · rename_i h
    obtain ⟨_, hn, ho⟩ := chkSp_canon (Classical.byContradiction h)
    have := meas_bd ho l.length (Nat.le_refl _)
    rw [List.take_length] at this
    show _ ≤ measS l ∧ measS l ≤ _
    omega
theorem sets_few1 {keep : Bool → Bool → Bool} {a b r : List Pr} (h : setS keep a b = (r, 0)) : a.length ≤ 1000 := by
  unfold setS at h
  by_cases q1 : chkSp a = 0
  · exact (chkSp_canon q1).2.1
  · rw [if_pos q1] at h; injection h with _ h; exact absurd h q1
set_option maxRecDepth 100000 in
set_option maxHeartbeats 8000000 in
theorem lawSs_walk (A A' : Option Addr) (n c m0 d : Nat) (a b : List Pr) (w : World) (hcc : n ≤ c ∧ c ≤ maxLen) (hn9 : n ≤ 8796093022207) (hm9 : m0 ≤ 8796093022207) (ha : Hid (PrsAt w w.heap.size A n a)) (hb : Hid (PrsAt w w.heap.size A' m0 b)) :
    Calls Tryd.prog 4 #[.slice A n c, .slice A' m0 d] w fun e w' => e = .returned (.bool true) ∧ Below w.heap.size w w' := by
  have hla := Lib.hid ha.out.1
  have hlb := Lib.hid hb.out.1
  have hlJ := set_len (fun x y => or x y) a b
  have HFJ := Lib.hid (sets_few (keep := (fun x y => or x y)) rfl (a := a) (b := b))
  obtain ⟨⟨lJ, fJ⟩, hJ⟩ : ∃ p, setS (fun x y => or x y) a b = p := ⟨_, rfl⟩
  have HJ := Lib.hid hJ
  rw [hJ] at hlJ HFJ
  dsimp only at hlJ HFJ
  clear hJ
  have hlM := set_len (fun x y => and x y) a b
  have HFM := Lib.hid (sets_few (keep := (fun x y => and x y)) rfl (a := a) (b := b))
  obtain ⟨⟨lM, fM⟩, hM⟩ : ∃ p, setS (fun x y => and x y) a b = p := ⟨_, rfl⟩
  have HM := Lib.hid hM
  rw [hM] at hlM HFM
  dsimp only at hlM HFM
  clear hM
  have hlW := set_len (fun x y => and x (not y)) a b
  have HFW := Lib.hid (sets_few (keep := (fun x y => and x (not y))) rfl (a := a) (b := b))
  obtain ⟨⟨lW, fW⟩, hW⟩ : ∃ p, setS (fun x y => and x (not y)) a b = p := ⟨_, rfl⟩
  have HW := Lib.hid hW
  rw [hW] at hlW HFW
  dsimp only at hlW HFW
  clear hW
  obtain ⟨ca, hca⟩ : ∃ x, chkSp a = x := ⟨_, rfl⟩
  have HCA := Lib.hid hca
  obtain ⟨cb, hcb⟩ : ∃ x, chkSp b = x := ⟨_, rfl⟩
  have HCB := Lib.hid hcb
  rw [hca, hcb, hla.out, hlb.out] at HFJ HFM HFW
  clear hca hcb
  have HB0 := Lib.hid (Below.refl w.heap.size w)
  have hs0 : w.heap.size ≤ w.heap.size := Nat.le_refl _
  go_enter Tryd.func4, Tryd.ntmps4
  go_wp2_with fail
  refine (CJOIN_any A A' n c m0 d a b _ w.heap.size hs0 (Lib.hid (ha.out.below HB0.out (Nat.le_refl _))) (Lib.hid (hb.out.below HB0.out (Nat.le_refl _)))).mono ?_
  rw [HJ.out]
  rintro e w1 ⟨v1, rfl, ho1, hb1⟩
  have HB1 := Lib.hid (HB0.out.trans (hb1.mono hs0))
  dsimp only at ho1 ⊢
  obtain ⟨A1, c1, rfl, hc1, hm1⟩ := ho1.len
  have P1 := Lib.hid ho1.at_
  have hs1 := HB1.out.size
  clear hb1 ho1
  go_wp2_with fail
  refine (CMEET_any A A' n c m0 d a b _ w.heap.size hs1 (Lib.hid (ha.out.below HB1.out (Nat.le_refl _))) (Lib.hid (hb.out.below HB1.out (Nat.le_refl _)))).mono ?_
  rw [HM.out]
  rintro e w2 ⟨v2, rfl, ho2, hb2⟩
  have HB2 := Lib.hid (HB1.out.trans (hb2.mono hs1))
  dsimp only at ho2 ⊢
  obtain ⟨A2, c2, rfl, hc2, hm2⟩ := ho2.len
  have P2 := Lib.hid ho2.at_
  replace P1 := Lib.hid (P1.out.to hb2 (Nat.le_refl _) hb2.size)
  have hs2 := HB2.out.size
  clear hb2 ho2
  go_wp2_with fail
  refine (CWITHOUT_any A A' n c m0 d a b _ w.heap.size hs2 (Lib.hid (ha.out.below HB2.out (Nat.le_refl _))) (Lib.hid (hb.out.below HB2.out (Nat.le_refl _)))).mono ?_
  rw [HW.out]
  rintro e w3 ⟨v3, rfl, ho3, hb3⟩
  have HB3 := Lib.hid (HB2.out.trans (hb3.mono hs2))
  dsimp only at ho3 ⊢
  obtain ⟨A3, c3, rfl, hc3, hm3⟩ := ho3.len
  have P3 := Lib.hid ho3.at_
  replace P1 := Lib.hid (P1.out.to hb3 (Nat.le_refl _) hb3.size)
  replace P2 := Lib.hid (P2.out.to hb3 (Nat.le_refl _) hb3.size)
  have hs3 := HB3.out.size
  clear hb3 ho3
  by_cases z1 : fJ = 0
  rotate_left
  · have HBAD := HFJ.out z1
    have hz : (fJ != 0) = true := by simpa using z1
    clear z1 P1 P2 P3
    go_upto_region 5 with (fail)
    by_cases h1 : ca = 0
    · subst h1
      by_cases h2 : cb = 0
      · subst h2
        have h3 : 1000 < n + m0 := by
          rcases HBAD with h | h | h
          · exact absurd rfl h
          · exact absurd rfl h
          · exact h
        have hd : decide ((1000 : Int) < (n : Int) + (m0 : Int)) = true := by simp; omega
        clear HBAD
        go_wp2_with (first
          | (go_at_call 11; (with_reducible refine (CCHECKSPANS_any A n c a _ w.heap.size hs3 (Lib.hid (ha.out.below HB3.out (Nat.le_refl _)))).mono ?_); rintro e w4 ⟨rfl, hb4⟩; rw [HCA.out]; have hs4 := Nat.le_trans hs3 hb4.size; have hbb4 := Lib.hid (hb.out.below (HB3.out.trans (hb4.mono hs3)) (Nat.le_refl _)))
          | (go_at_call 11; (with_reducible refine (CCHECKSPANS_any A' m0 d b _ w.heap.size hs4 hbb4).mono ?_); rintro e w5 ⟨rfl, hb5⟩; rw [HCB.out]))
        go_ret
        exact ⟨rfl, HB3.out.trans ((hb4.trans (hb5.mono hb4.size)).mono hs3)⟩
      · have hq : (cb != 0) = true := by simpa using h2
        clear HBAD
        go_wp2_with (first
          | (go_at_call 11; (with_reducible refine (CCHECKSPANS_any A n c a _ w.heap.size hs3 (Lib.hid (ha.out.below HB3.out (Nat.le_refl _)))).mono ?_); rintro e w4 ⟨rfl, hb4⟩; rw [HCA.out]; have hs4 := Nat.le_trans hs3 hb4.size; have hbb4 := Lib.hid (hb.out.below (HB3.out.trans (hb4.mono hs3)) (Nat.le_refl _)))
          | (go_at_call 11; (with_reducible refine (CCHECKSPANS_any A' m0 d b _ w.heap.size hs4 hbb4).mono ?_); rintro e w5 ⟨rfl, hb5⟩; rw [HCB.out]))
        go_ret
        exact ⟨rfl, HB3.out.trans ((hb4.trans (hb5.mono hb4.size)).mono hs3)⟩
    · have hq : (ca != 0) = true := by simpa using h1
      clear HBAD
      go_wp2_with (first
        | (go_at_call 11; (with_reducible refine (CCHECKSPANS_any A n c a _ w.heap.size hs3 (Lib.hid (ha.out.below HB3.out (Nat.le_refl _)))).mono ?_); rintro e w4 ⟨rfl, hb4⟩; rw [HCA.out]; have hs4 := Nat.le_trans hs3 hb4.size; have hbb4 := Lib.hid (hb.out.below (HB3.out.trans (hb4.mono hs3)) (Nat.le_refl _)))
        | (go_at_call 11; (with_reducible refine (CCHECKSPANS_any A' m0 d b _ w.heap.size hs4 hbb4).mono ?_); rintro e w5 ⟨rfl, hb5⟩; rw [HCB.out]))
      go_ret
      exact ⟨rfl, HB3.out.trans (hb4.mono hs3)⟩
  by_cases z2 : fM = 0
  rotate_left
  · have HBAD := HFM.out z2
    have hz : (fM != 0) = true := by simpa using z2
    subst z1
    clear z2 P1 P2 P3
    go_upto_region 5 with (fail)
    by_cases h1 : ca = 0
    · subst h1
      by_cases h2 : cb = 0
      · subst h2
        have h3 : 1000 < n + m0 := by
          rcases HBAD with h | h | h
          · exact absurd rfl h
          · exact absurd rfl h
          · exact h
        have hd : decide ((1000 : Int) < (n : Int) + (m0 : Int)) = true := by simp; omega
        clear HBAD
        go_wp2_with (first
          | (go_at_call 11; (with_reducible refine (CCHECKSPANS_any A n c a _ w.heap.size hs3 (Lib.hid (ha.out.below HB3.out (Nat.le_refl _)))).mono ?_); rintro e w4 ⟨rfl, hb4⟩; rw [HCA.out]; have hs4 := Nat.le_trans hs3 hb4.size; have hbb4 := Lib.hid (hb.out.below (HB3.out.trans (hb4.mono hs3)) (Nat.le_refl _)))
          | (go_at_call 11; (with_reducible refine (CCHECKSPANS_any A' m0 d b _ w.heap.size hs4 hbb4).mono ?_); rintro e w5 ⟨rfl, hb5⟩; rw [HCB.out]))
        go_ret
        exact ⟨rfl, HB3.out.trans ((hb4.trans (hb5.mono hb4.size)).mono hs3)⟩
      · have hq : (cb != 0) = true := by simpa using h2
        clear HBAD
        go_wp2_with (first
          | (go_at_call 11; (with_reducible refine (CCHECKSPANS_any A n c a _ w.heap.size hs3 (Lib.hid (ha.out.below HB3.out (Nat.le_refl _)))).mono ?_); rintro e w4 ⟨rfl, hb4⟩; rw [HCA.out]; have hs4 := Nat.le_trans hs3 hb4.size; have hbb4 := Lib.hid (hb.out.below (HB3.out.trans (hb4.mono hs3)) (Nat.le_refl _)))
          | (go_at_call 11; (with_reducible refine (CCHECKSPANS_any A' m0 d b _ w.heap.size hs4 hbb4).mono ?_); rintro e w5 ⟨rfl, hb5⟩; rw [HCB.out]))
        go_ret
        exact ⟨rfl, HB3.out.trans ((hb4.trans (hb5.mono hb4.size)).mono hs3)⟩
    · have hq : (ca != 0) = true := by simpa using h1
      clear HBAD
      go_wp2_with (first
        | (go_at_call 11; (with_reducible refine (CCHECKSPANS_any A n c a _ w.heap.size hs3 (Lib.hid (ha.out.below HB3.out (Nat.le_refl _)))).mono ?_); rintro e w4 ⟨rfl, hb4⟩; rw [HCA.out]; have hs4 := Nat.le_trans hs3 hb4.size; have hbb4 := Lib.hid (hb.out.below (HB3.out.trans (hb4.mono hs3)) (Nat.le_refl _)))
        | (go_at_call 11; (with_reducible refine (CCHECKSPANS_any A' m0 d b _ w.heap.size hs4 hbb4).mono ?_); rintro e w5 ⟨rfl, hb5⟩; rw [HCB.out]))
      go_ret
      exact ⟨rfl, HB3.out.trans (hb4.mono hs3)⟩
  by_cases z3 : fW = 0
  rotate_left
  · have HBAD := HFW.out z3
    have hz : (fW != 0) = true := by simpa using z3
    subst z1 z2
    clear z3 P1 P2 P3
    go_upto_region 5 with (fail)
    by_cases h1 : ca = 0
    · subst h1
      by_cases h2 : cb = 0
      · subst h2
        have h3 : 1000 < n + m0 := by
          rcases HBAD with h | h | h
          · exact absurd rfl h
          · exact absurd rfl h
          · exact h
        have hd : decide ((1000 : Int) < (n : Int) + (m0 : Int)) = true := by simp; omega
        clear HBAD
        go_wp2_with (first
          | (go_at_call 11; (with_reducible refine (CCHECKSPANS_any A n c a _ w.heap.size hs3 (Lib.hid (ha.out.below HB3.out (Nat.le_refl _)))).mono ?_); rintro e w4 ⟨rfl, hb4⟩; rw [HCA.out]; have hs4 := Nat.le_trans hs3 hb4.size; have hbb4 := Lib.hid (hb.out.below (HB3.out.trans (hb4.mono hs3)) (Nat.le_refl _)))
          | (go_at_call 11; (with_reducible refine (CCHECKSPANS_any A' m0 d b _ w.heap.size hs4 hbb4).mono ?_); rintro e w5 ⟨rfl, hb5⟩; rw [HCB.out]))
        go_ret
        exact ⟨rfl, HB3.out.trans ((hb4.trans (hb5.mono hb4.size)).mono hs3)⟩
      · have hq : (cb != 0) = true := by simpa using h2
        clear HBAD
        go_wp2_with (first
          | (go_at_call 11; (with_reducible refine (CCHECKSPANS_any A n c a _ w.heap.size hs3 (Lib.hid (ha.out.below HB3.out (Nat.le_refl _)))).mono ?_); rintro e w4 ⟨rfl, hb4⟩; rw [HCA.out]; have hs4 := Nat.le_trans hs3 hb4.size; have hbb4 := Lib.hid (hb.out.below (HB3.out.trans (hb4.mono hs3)) (Nat.le_refl _)))
          | (go_at_call 11; (with_reducible refine (CCHECKSPANS_any A' m0 d b _ w.heap.size hs4 hbb4).mono ?_); rintro e w5 ⟨rfl, hb5⟩; rw [HCB.out]))
        go_ret
        exact ⟨rfl, HB3.out.trans ((hb4.trans (hb5.mono hb4.size)).mono hs3)⟩
    · have hq : (ca != 0) = true := by simpa using h1
      clear HBAD
      go_wp2_with (first
        | (go_at_call 11; (with_reducible refine (CCHECKSPANS_any A n c a _ w.heap.size hs3 (Lib.hid (ha.out.below HB3.out (Nat.le_refl _)))).mono ?_); rintro e w4 ⟨rfl, hb4⟩; rw [HCA.out]; have hs4 := Nat.le_trans hs3 hb4.size; have hbb4 := Lib.hid (hb.out.below (HB3.out.trans (hb4.mono hs3)) (Nat.le_refl _)))
        | (go_at_call 11; (with_reducible refine (CCHECKSPANS_any A' m0 d b _ w.heap.size hs4 hbb4).mono ?_); rintro e w5 ⟨rfl, hb5⟩; rw [HCB.out]))
      go_ret
      exact ⟨rfl, HB3.out.trans (hb4.mono hs3)⟩
  subst z1 z2 z3
  obtain ⟨g1, g2, g3⟩ := law_sets HJ.out HM.out HW.out
  have G2 := Lib.hid g2
  have hn1 : n ≤ 1000 := by rw [← hla.out]; exact sets_few1 HJ.out
  have G3 := Lib.hid g3
  obtain ⟨y11, y12⟩ := len_bd lJ
  obtain ⟨⟨x1, e1⟩, hx1⟩ : ∃ p, lenS lJ = p := ⟨_, rfl⟩
  have HX1 := Lib.hid hx1
  rw [hx1] at g1 y11 y12
  clear hx1
  obtain ⟨y21, y22⟩ := len_bd lM
  obtain ⟨⟨x2, e2⟩, hx2⟩ : ∃ p, lenS lM = p := ⟨_, rfl⟩
  have HX2 := Lib.hid hx2
  rw [hx2] at g1 y21 y22
  clear hx2
  obtain ⟨y31, y32⟩ := len_bd a
  obtain ⟨⟨x3, e3⟩, hx3⟩ : ∃ p, lenS a = p := ⟨_, rfl⟩
  have HX3 := Lib.hid hx3
  rw [hx3] at g1 y31 y32
  clear hx3
  obtain ⟨y41, y42⟩ := len_bd b
  obtain ⟨⟨x4, e4⟩, hx4⟩ : ∃ p, lenS b = p := ⟨_, rfl⟩
  have HX4 := Lib.hid hx4
  rw [hx4] at g1 y41 y42
  clear hx4
  dsimp only at g1 y11 y12 y21 y22 y31 y32 y41 y42
  have hE : (x1 + x2 == x3 + x4) = true := by simpa using g1
  clear g1 g2 g3 HFJ HFM HFW
  go_wp2_with fail
  refine (CLENGTH_any A1 lJ.length c1 lJ _ w3.heap.size (Nat.le_refl _) P1).mono ?_
  rw [HX1.out]
  rintro e w4 ⟨rfl, hb4⟩
  have HB4 := Lib.hid (HB3.out.trans (hb4.mono hs3))
  replace P1 := Lib.hid (P1.out.to hb4 (Nat.le_refl _) hb4.size)
  replace P2 := Lib.hid (P2.out.to hb4 (Nat.le_refl _) hb4.size)
  replace P3 := Lib.hid (P3.out.to hb4 (Nat.le_refl _) hb4.size)
  have hs4 := HB4.out.size
  clear hb4
  dsimp only
  go_wp2_with fail
  refine (CLENGTH_any A2 lM.length c2 lM _ w4.heap.size (Nat.le_refl _) P2).mono ?_
  rw [HX2.out]
  rintro e w5 ⟨rfl, hb5⟩
  have HB5 := Lib.hid (HB4.out.trans (hb5.mono hs4))
  replace P2 := Lib.hid (P2.out.to hb5 (Nat.le_refl _) hb5.size)
  replace P3 := Lib.hid (P3.out.to hb5 (Nat.le_refl _) hb5.size)
  have hs5 := HB5.out.size
  clear hb5
  dsimp only
  go_wp2_with fail
  refine (CLENGTH_any A n c a _ w.heap.size hs5 (Lib.hid (ha.out.below HB5.out (Nat.le_refl _)))).mono ?_
  rw [HX3.out]
  rintro e w6 ⟨rfl, hb6⟩
  have HB6 := Lib.hid (HB5.out.trans (hb6.mono hs5))
  replace P2 := Lib.hid (P2.out.to hb6 (Nat.le_refl _) hb6.size)
  replace P3 := Lib.hid (P3.out.to hb6 (Nat.le_refl _) hb6.size)
  have hs6 := HB6.out.size
  clear hb6
  dsimp only
  go_wp2_with fail
  refine (CLENGTH_any A' m0 d b _ w.heap.size hs6 (Lib.hid (hb.out.below HB6.out (Nat.le_refl _)))).mono ?_
  rw [HX4.out]
  rintro e w7 ⟨rfl, hb7⟩
  have HB7 := Lib.hid (HB6.out.trans (hb7.mono hs6))
  replace P2 := Lib.hid (P2.out.to hb7 (Nat.le_refl _) hb7.size)
  replace P3 := Lib.hid (P3.out.to hb7 (Nat.le_refl _) hb7.size)
  have hs7 := HB7.out.size
  clear hb7
  dsimp only
  go_wp2_with fail
  refine (CJOIN_any A3 A2 lW.length c3 lM.length c2 lW lM _ w7.heap.size (Nat.le_refl _) P3 P2).mono ?_
  rw [G2.out]
  rintro e w8 ⟨v8, rfl, ho8, hb8⟩
  have HB8 := Lib.hid (HB7.out.trans (hb8.mono hs7))
  dsimp only at ho8 ⊢
  obtain ⟨A8, c8, rfl, hc8, hm8⟩ := ho8.len
  have P8 := Lib.hid ho8.at_
  replace P2 := Lib.hid (P2.out.to hb8 (Nat.le_refl _) hb8.size)
  replace P3 := Lib.hid (P3.out.to hb8 (Nat.le_refl _) hb8.size)
  have hs8 := HB8.out.size
  clear hb8 ho8
  have hb8x : Hid (PrsAt w8 w8.heap.size A' m0 b) := (hb.out.below HB8.out (Nat.le_refl _)).mono hs8
  go_wp2_with fail
  refine (CMEET_any A3 A' lW.length c3 m0 d lW b _ w8.heap.size (Nat.le_refl _) P3 hb8x).mono ?_
  rw [G3.out]
  rintro e w9 ⟨v9, rfl, ho9, hb9⟩
  have HB9 := Lib.hid (HB8.out.trans (hb9.mono hs8))
  dsimp only at ho9 ⊢
  obtain ⟨A9, c9, rfl, hc9, hm9⟩ := ho9.len
  have P9 := Lib.hid ho9.at_
  replace P3 := Lib.hid (P3.out.to hb9 (Nat.le_refl _) hb9.size)
  replace P8 := Lib.hid (P8.out.to hb9 (Nat.le_refl _) hb9.size)
  have hs9 := HB9.out.size
  clear hb9 ho9
  rw [hla.out] at P8 hc8 ⊢
  dsimp only [List.length_nil]
  go_wp2_with fail
  refine (SPEQUAL_same A8 A n c8 c a (by omega) _ w9.heap.size (Nat.le_refl _) ⟨hc8, hm8⟩ hcc P8 (Lib.hid ((ha.out.below HB9.out (Nat.le_refl _)).mono hs9))).mono ?_
  rintro e w10 ⟨rfl, hb10⟩
  have HB10 := Lib.hid (HB9.out.trans (hb10.mono hs9))
  have hs10 := HB10.out.size
  clear hb10
  go_wp2_with fail
  refine (AWAKE_any _).mono ?_
  rintro e w11 ⟨rfl, hb11⟩
  have HB11 := Lib.hid (HB10.out.trans (hb11.mono hs10))
  clear hb11
  go_wp2_with fail
  go_ret
  exact ⟨rfl, HB11.out⟩
end Go.Proofs.YtpfjodggnfgnnaaDoor
