/- SoundBytesComeBack, walked. -/
import Derived.Test.YtlnjildkdmeflaaDoorLbs
import Derived.Test.YtlnjildkdmeflaaDoorYpl
set_option linter.unusedSimpArgs false
set_option linter.unusedVariables false
namespace Go.Proofs.YtlnjildkdmeflaaDoor
open Go.RowKit Go.Dw
theorem notes_fine : ∀ {l pre : List Nx}, notesF pre l = 0 → ∀ x ∈ l, noteX x = 0
  | n :: t, pre, h, x, hx => by
    obtain ⟨h1, _, h3⟩ := notesF_cons h
    rcases List.mem_cons.1 hx with rfl | hx
    · exact h1
    · exact notes_fine h3 x hx
theorem bytes_notes {r : Int} {xss : List (List Int)} {bits : Int} {l : List Nx} {x : By} (h : bytesS r xss bits l = (x, 0)) : ∀ x ∈ l, x.1.size ≤ maxLen ∧ x.2.size ≤ maxLen := by
  unfold bytesS at h
  by_cases h1 : chkS r xss ≠ 0
  · rw [if_pos h1] at h; injection h with _ h; exact absurd h h1
  by_cases h2 : bits ≠ 16 ∧ bits ≠ 24
  · rw [if_neg h1, if_pos h2] at h; injection h with _ h; cases h
  by_cases h3 : bits = 16 ∧ evenB xss = false
  · rw [if_neg h1, if_neg h2, if_pos h3] at h; injection h with _ h; cases h
  by_cases h4 : 50 < l.length
  · rw [if_neg h1, if_neg h2, if_neg h3, if_pos h4] at h; injection h with _ h; cases h
  by_cases h5 : notesF [] l ≠ 0
  · rw [if_neg h1, if_neg h2, if_neg h3, if_neg h4, if_pos h5] at h; injection h with _ h; exact absurd h h5
  intro y hy
  obtain ⟨_, _, h6, h7⟩ := noteX_in (notes_fine (by simpa using h5) y hy)
  rw [len_dat] at h6 h7
  unfold maxLen
  omega
set_option maxRecDepth 100000 in
set_option maxHeartbeats 4000000 in
theorem lawBk_walk (r bits : Int) (A AN A' : Option Addr) (n c nn cN n' c' : Nat) (xss : List (List Int)) (l : List Nx) (b : By) (w : World) (hz : Hid (∀ x ∈ l, x.1.size ≤ maxLen ∧ x.2.size ≤ maxLen)) (hc : n' ≤ c' ∧ c' ≤ maxLen) (hnn : nn ≤ 9223372036854775807)
    (hh : Hid (RowsAt w w.heap.size A n xss)) (HN0 : Hid (NtsAt w w.heap.size AN nn l)) (Hb0 : Hid (BysAt w w.heap.size A' n' b)) (m9 : Int) (hmN : 0 < w.heap.size) (HM : Hid (w.cell? ⟨0, 0, none⟩ = some (.int .i64 m9))) :
    Calls Tryd.prog 4 #[.agg #[.int .i64 r, .slice A n c], .int .i64 bits, .slice AN nn cN, .slice A' n' c'] w fun e w' => e = .returned (.bool true) ∧ Below w.heap.size w w' := by
  have HC := Lib.hid hc
  clear hc
  obtain ⟨⟨z0, z1⟩, hZ⟩ : ∃ Z, bytesS r xss bits l = Z := ⟨_, rfl⟩
  have HZ := Lib.hid hZ
  clear hZ
  obtain ⟨W, gx, hW, hgx, B0, HB⟩ := sbox_new w r A n c xss hh.out
  have HN : Hid (NtsAt W W.heap.size AN nn l) := below_nts HN0.out HB.out
  have Hb : Hid (BysAt W W.heap.size A' n' b) := below_bys Hb0.out HB.out
  replace HM := Lib.hid ((HB.out.cell (p := ⟨0, 0, none⟩) hmN).trans HM.out)
  replace hmN := Nat.lt_of_lt_of_le hmN HB.out.size
  obtain ⟨x0, x1, _, _⟩ := sbox_cells B0.out
  go_enter Tryd.func4, Tryd.ntmps4
  go_upto_region 1 with (fail)
  rw [← hW, ← hgx]
  clear hW hgx HN0 Hb0 hh
  go_wp2_with fail
  refine (BYTES_any r bits A AN n c nn cN xss l hz _ W.heap.size (Nat.le_refl _) B0.out.rows HN).mono ?_
  rw [HZ.out]
  rintro e w1 ⟨v1, rfl, ho1, hb⟩
  obtain ⟨A1, c1, rfl, hl1, hl2⟩ := ho1.form
  have X1 : Hid (BysAt w1 w1.heap.size A1 z0.length z0) := ho1.at_
  have HC1 := Lib.hid (And.intro hl1 hl2)
  dsimp only at ho1 X1 HC1 ⊢
  clear ho1 hl1 hl2 x0 x1
  replace B0 := Lib.hid (SBox.below B0.out hb)
  replace HN := Lib.hid (below_nts HN.out hb)
  replace Hb := Lib.hid (below_bys Hb.out hb)
  replace HB := Lib.hid (HB.out.trans (hb.mono HB.out.size))
  replace HM := Lib.hid ((hb.cell (p := ⟨0, 0, none⟩) hmN).trans HM.out)
  replace hmN := Nat.lt_of_lt_of_le hmN hb.size
  clear hb
  by_cases hf1 : z1 = 0
  · subst hf1
    have HRD := Lib.hid (bytes_read HZ.out)
    clear HZ
    have hll := HN.out.1
    subst hll
    have hst : sameS r xss r xss = true := by simp [sameS]
    obtain ⟨x0, x1, _, _⟩ := sbox_cells B0.out
    go_wp2_with fail
    refine (FROMBYTES_any A1 z0.length c1 z0 HC1.out _ w1.heap.size (Nat.le_refl _) X1 m9 hmN HM).mono ?_
    rw [HRD.out]
    rintro e w2 ⟨v2, u2, rfl, ho2, hn2, hb⟩
    obtain ⟨A2, c2, rfl, _, _⟩ := ho2.form
    obtain ⟨A7, c7, rfl, _, _⟩ := OwnNts.len hn2
    have N2 : Hid (NtsAt w2 w2.heap.size A7 l.length l) := OwnNts.at_ hn2
    dsimp only at ho2 N2 ⊢
    clear hn2 x0 x1 X1 HRD
    replace B0 := Lib.hid (SBox.below B0.out hb)
    replace HN := Lib.hid (below_nts HN.out hb)
    replace Hb := Lib.hid (below_bys Hb.out hb)
    replace HB := Lib.hid (HB.out.trans (hb.mono HB.out.size))
    replace HM := Lib.hid ((hb.cell (p := ⟨0, 0, none⟩) hmN).trans HM.out)
    replace hmN := Nat.lt_of_lt_of_le hmN hb.size
    clear hb
    go_upto_region 4 with (fail)
    obtain ⟨Y1, g1, hX, hg, B1, HBX⟩ := sbox_new w2 r A2 xss.length c2 xss ho2.rows
    rw [← hX, ← hg]
    have hb := HBX.out
    clear hX hg HBX ho2
    replace B0 := Lib.hid (SBox.below B0.out hb)
    replace N2 := Lib.hid (below_nts N2.out hb)
    replace HN := Lib.hid (below_nts HN.out hb)
    replace Hb := Lib.hid (below_bys Hb.out hb)
    replace HB := Lib.hid (HB.out.trans (hb.mono HB.out.size))
    replace HM := Lib.hid ((hb.cell (p := ⟨0, 0, none⟩) hmN).trans HM.out)
    replace hmN := Nat.lt_of_lt_of_le hmN hb.size
    clear hb
    obtain ⟨x0, x1, _, _⟩ := sbox_cells B0.out
    obtain ⟨p0, p1, _, _⟩ := sbox_cells B1.out
    go_wp2_with fail
    refine (SAME_any _ _ _ _ _ _ _ _ xss xss _ Y1.heap.size (Nat.le_refl _) B0.out.rows B1.out.rows).mono ?_
    rintro e w6 ⟨rfl, hb⟩
    rw [hst]
    clear x0 x1 p0 p1 B0 B1
    replace N2 := Lib.hid (below_nts N2.out hb)
    replace HN := Lib.hid (below_nts HN.out hb)
    replace Hb := Lib.hid (below_bys Hb.out hb)
    replace HB := Lib.hid (HB.out.trans (hb.mono HB.out.size))
    replace HM := Lib.hid ((hb.cell (p := ⟨0, 0, none⟩) hmN).trans HM.out)
    replace hmN := Nat.lt_of_lt_of_le hmN hb.size
    clear hb
    go_wp2_with fail
    refine (EQNOTES_same A7 AN l.length c7 cN l _ w6.heap.size (by omega) N2 HN).mono ?_
    rintro e w7 ⟨rfl, nq, hq⟩
    have hb : Below w6.heap.size w6 w7 := by rw [hq]; exact belowN (Below.refl _ _) nq
    clear hq N2 HN
    replace Hb := Lib.hid (below_bys Hb.out hb)
    replace HB := Lib.hid (HB.out.trans (hb.mono HB.out.size))
    replace HM := Lib.hid ((hb.cell (p := ⟨0, 0, none⟩) hmN).trans HM.out)
    replace hmN := Nat.lt_of_lt_of_le hmN hb.size
    clear hb
    go_wp2_with fail
    refine (FROMBYTES_any A' n' c' b HC.out _ w7.heap.size (Nat.le_refl _) Hb m9 hmN HM).mono ?_
    obtain ⟨⟨⟨⟨y0, y1⟩, y2⟩, y3, y4⟩, hY⟩ : ∃ Y, fbS b = Y := ⟨_, rfl⟩
    have HY := Lib.hid hY
    rw [hY]
    clear hY
    rintro e w3 ⟨v3, u3, rfl, ho3, hn3, hb⟩
    dsimp only at ho3 hn3 ⊢
    replace Hb := Lib.hid (below_bys Hb.out hb)
    replace HB := Lib.hid (HB.out.trans (hb.mono HB.out.size))
    replace HM := Lib.hid ((hb.cell (p := ⟨0, 0, none⟩) hmN).trans HM.out)
    replace hmN := Nat.lt_of_lt_of_le hmN hb.size
    clear hb
    by_cases hf : y4 = 0
    · subst hf
      obtain ⟨r9, xss9, l9, bb, hbb, hfb, hwr⟩ := bytes_back (b := b) (by rw [HY.out])
      rw [HY.out] at hfb
      simp only [Prod.mk.injEq] at hfb
      obtain ⟨⟨⟨rfl, rfl⟩, rfl⟩, rfl, _⟩ := hfb
      have hz9 := Lib.hid (bytes_notes hwr)
      have HW := Lib.hid hwr
      clear hwr
      obtain ⟨A3, c3, rfl, _, _⟩ := ho3.form
      obtain ⟨A5, c5, rfl, _, _⟩ := OwnNts.len hn3
      have N3 : Hid (NtsAt w3 w3.heap.size A5 y2.length y2) := OwnNts.at_ hn3
      clear hn3
      go_upto_region 7 with (fail)
      obtain ⟨Y1, g1, hX, hg, B1, HBX⟩ := sbox_new w3 y0 A3 y1.length c3 y1 ho3.rows
      rw [← hX, ← hg]
      have hb := HBX.out
      clear hX hg HBX ho3
      replace N3 := Lib.hid (below_nts N3.out hb)
      replace Hb := Lib.hid (below_bys Hb.out hb)
      replace HB := Lib.hid (HB.out.trans (hb.mono HB.out.size))
      replace HM := Lib.hid ((hb.cell (p := ⟨0, 0, none⟩) hmN).trans HM.out)
      replace hmN := Nat.lt_of_lt_of_le hmN hb.size
      clear hb
      obtain ⟨p0, p1, _, _⟩ := sbox_cells B1.out
      go_wp2_with fail
      refine (BYTES_any y0 24 A3 A5 y1.length c3 y2.length c5 y1 y2 hz9 _ Y1.heap.size (Nat.le_refl _) B1.out.rows N3).mono ?_
      obtain ⟨⟨s1, f1⟩, hs⟩ : ∃ S, bytesS y0 y1 24 y2 = S := ⟨_, rfl⟩
      have HS1 := Lib.hid hs
      rw [hs]
      clear hs p0 p1
      rintro e w4 ⟨v4, rfl, ho4, hb⟩
      obtain ⟨A4, c4, rfl, hl4, hl4'⟩ := ho4.form
      unfold maxLen at hl4'
      have X4 : Hid (BysAt w4 w4.heap.size A4 s1.length s1) := ho4.at_
      dsimp only at ho4 hl4 hl4' X4 ⊢
      have hs1 : s1.length ≤ 9223372036854775807 := by omega
      clear ho4 hl4 hl4'
      replace B1 := Lib.hid (SBox.below B1.out hb)
      replace N3 := Lib.hid (below_nts N3.out hb)
      replace Hb := Lib.hid (below_bys Hb.out hb)
      replace HB := Lib.hid (HB.out.trans (hb.mono HB.out.size))
      replace HM := Lib.hid ((hb.cell (p := ⟨0, 0, none⟩) hmN).trans HM.out)
      replace hmN := Nat.lt_of_lt_of_le hmN hb.size
      clear hb
      obtain ⟨p0, p1, _, _⟩ := sbox_cells B1.out
      go_wp2_with fail
      refine (BYTES_any y0 16 A3 A5 y1.length c3 y2.length c5 y1 y2 hz9 _ w4.heap.size (Nat.le_refl _) B1.out.rows N3).mono ?_
      obtain ⟨⟨s2, f2⟩, hs⟩ : ∃ S, bytesS y0 y1 16 y2 = S := ⟨_, rfl⟩
      have HS2 := Lib.hid hs
      rw [hs]
      clear hs p0 p1 B1 N3
      rintro e w5 ⟨v5, rfl, ho5, hb⟩
      obtain ⟨A6, c6, rfl, hl5, hl5'⟩ := ho5.form
      unfold maxLen at hl5'
      have X5 : Hid (BysAt w5 w5.heap.size A6 s2.length s2) := ho5.at_
      dsimp only at ho5 hl5 hl5' X5 ⊢
      have hs2 : s2.length ≤ 9223372036854775807 := by omega
      clear ho5 hl5 hl5'
      replace X4 := Lib.hid (below_bys X4.out hb)
      replace Hb := Lib.hid (below_bys Hb.out hb)
      replace HB := Lib.hid (HB.out.trans (hb.mono HB.out.size))
      replace HM := Lib.hid ((hb.cell (p := ⟨0, 0, none⟩) hmN).trans HM.out)
      replace hmN := Nat.lt_of_lt_of_le hmN hb.size
      clear hb
      rcases hbb with rfl | rfl
      · -- 16 bits were read
        have h2 : s2 = b ∧ f2 = 0 := by
          have h := HW.out
          rw [show (((16 : Nat) : Int)) = 16 from rfl, HS2.out] at h
          simpa using h
        obtain ⟨rfl, rfl⟩ := h2
        clear HW HS1 HS2
        by_cases hf1 : f1 = 0
        · subst hf1
          by_cases hsb : s1 = s2
          · have HSB : Hid (decide (s1 = s2) = true) := decide_eq_true hsb
            clear hsb
            go_wp2_with fail
            refine (EQBYTES_any A4 A' s1.length n' c4 c' s1 s2 _ w5.heap.size hs1 X4 Hb).mono ?_
            rw [HSB.out]
            rintro e w6 ⟨rfl, nq, hq⟩
            have hb : Below w5.heap.size w5 w6 := by rw [hq]; exact belowN (Below.refl _ _) nq
            clear hq X4 X5 Hb
            replace HB := Lib.hid (HB.out.trans (hb.mono HB.out.size))
            replace HM := Lib.hid ((hb.cell (p := ⟨0, 0, none⟩) hmN).trans HM.out)
            replace hmN := Nat.lt_of_lt_of_le hmN hb.size
            clear hb
            go_wp2_with fail
            refine (AWAKE_any _).mono ?_
            rintro e w8 ⟨rfl, hb⟩
            replace HB := Lib.hid (HB.out.trans (hb.mono HB.out.size))
            clear hb
            go_wp2_with fail
            go_ret
            exact ⟨rfl, HB.out⟩
          · have HSB : Hid (decide (s1 = s2) = false) := decide_eq_false hsb
            clear hsb
            go_wp2_with fail
            refine (EQBYTES_any A4 A' s1.length n' c4 c' s1 s2 _ w5.heap.size hs1 X4 Hb).mono ?_
            rw [HSB.out]
            rintro e w6 ⟨rfl, nq, hq⟩
            have hb : Below w5.heap.size w5 w6 := by rw [hq]; exact belowN (Below.refl _ _) nq
            clear hq X4
            replace X5 := Lib.hid (below_bys X5.out hb)
            replace Hb := Lib.hid (below_bys Hb.out hb)
            replace HB := Lib.hid (HB.out.trans (hb.mono HB.out.size))
            replace HM := Lib.hid ((hb.cell (p := ⟨0, 0, none⟩) hmN).trans HM.out)
            replace hmN := Nat.lt_of_lt_of_le hmN hb.size
            clear hb
            have hl9 := Hb.out.1
            subst hl9
            go_wp2_with fail
            refine (EQBYTES_same A6 A' s2.length c6 c' s2 _ w6.heap.size hs2 X5 Hb).mono ?_
            rintro e w7 ⟨rfl, nq, hq⟩
            have hb : Below w6.heap.size w6 w7 := by rw [hq]; exact belowN (Below.refl _ _) nq
            clear hq X5 Hb
            replace HB := Lib.hid (HB.out.trans (hb.mono HB.out.size))
            replace HM := Lib.hid ((hb.cell (p := ⟨0, 0, none⟩) hmN).trans HM.out)
            replace hmN := Nat.lt_of_lt_of_le hmN hb.size
            clear hb
            go_wp2_with fail
            refine (AWAKE_any _).mono ?_
            rintro e w8 ⟨rfl, hb⟩
            replace HB := Lib.hid (HB.out.trans (hb.mono HB.out.size))
            clear hb
            go_wp2_with fail
            go_ret
            exact ⟨rfl, HB.out⟩
        · have hf1' : (f1 == 0) = false := by simpa using hf1
          clear hf1
          have hl9 := Hb.out.1
          subst hl9
          go_wp2_with fail
          refine (EQBYTES_same A6 A' s2.length c6 c' s2 _ w5.heap.size hs2 X5 Hb).mono ?_
          rintro e w7 ⟨rfl, nq, hq⟩
          have hb : Below w5.heap.size w5 w7 := by rw [hq]; exact belowN (Below.refl _ _) nq
          clear hq X4 X5 Hb
          replace HB := Lib.hid (HB.out.trans (hb.mono HB.out.size))
          replace HM := Lib.hid ((hb.cell (p := ⟨0, 0, none⟩) hmN).trans HM.out)
          replace hmN := Nat.lt_of_lt_of_le hmN hb.size
          clear hb
          go_wp2_with fail
          refine (AWAKE_any _).mono ?_
          rintro e w8 ⟨rfl, hb⟩
          replace HB := Lib.hid (HB.out.trans (hb.mono HB.out.size))
          clear hb
          go_wp2_with fail
          go_ret
          exact ⟨rfl, HB.out⟩
      · -- 24 bits were read
        have h2 : s1 = b ∧ f1 = 0 := by
          have h := HW.out
          rw [show (((24 : Nat) : Int)) = 24 from rfl, HS1.out] at h
          simpa using h
        obtain ⟨rfl, rfl⟩ := h2
        clear HW HS1 HS2
        have hl9 := Hb.out.1
        subst hl9
        go_wp2_with fail
        refine (EQBYTES_same A4 A' s1.length c4 c' s1 _ w5.heap.size hs1 X4 Hb).mono ?_
        rintro e w7 ⟨rfl, nq, hq⟩
        have hb : Below w5.heap.size w5 w7 := by rw [hq]; exact belowN (Below.refl _ _) nq
        clear hq X4 X5 Hb
        replace HB := Lib.hid (HB.out.trans (hb.mono HB.out.size))
        replace HM := Lib.hid ((hb.cell (p := ⟨0, 0, none⟩) hmN).trans HM.out)
        replace hmN := Nat.lt_of_lt_of_le hmN hb.size
        clear hb
        go_wp2_with fail
        refine (AWAKE_any _).mono ?_
        rintro e w8 ⟨rfl, hb⟩
        replace HB := Lib.hid (HB.out.trans (hb.mono HB.out.size))
        clear hb
        go_wp2_with fail
        go_ret
        exact ⟨rfl, HB.out⟩
    · have hz := fbS_err (b := b) (by rw [HY.out]; exact hf)
      rw [HY.out] at hz
      simp only [Prod.mk.injEq] at hz
      obtain ⟨⟨rfl, rfl⟩, rfl⟩ := hz
      have hq : (y4 != 0) = true := by simpa using hf
      clear hf HY
      obtain ⟨A3, c3, rfl, _, _⟩ := ho3.form
      obtain ⟨A5, c5, rfl, _, _⟩ := OwnNts.len hn3
      dsimp only [List.length_nil] at ho3 ⊢
      clear hn3
      go_upto_region 7 with (fail)
      obtain ⟨Y1, g1, hX, hg, B1, HBX⟩ := sbox_new w3 0 A3 0 c3 [] ho3.rows
      rw [← hX, ← hg]
      have hb := HBX.out
      clear hX hg HBX ho3 Hb
      replace HB := Lib.hid (HB.out.trans (hb.mono HB.out.size))
      replace HM := Lib.hid ((hb.cell (p := ⟨0, 0, none⟩) hmN).trans HM.out)
      replace hmN := Nat.lt_of_lt_of_le hmN hb.size
      clear hb
      obtain ⟨p0, p1, _, _⟩ := sbox_cells B1.out
      go_wp2_with fail
      refine (AWAKE_any _).mono ?_
      rintro e w8 ⟨rfl, hb⟩
      replace HB := Lib.hid (HB.out.trans (hb.mono HB.out.size))
      clear hb
      go_wp2_with fail
      go_ret
      exact ⟨rfl, HB.out⟩
  · have hq1 : (z1 == 0) = false := by simpa using hf1
    clear hf1 HZ B0 HN X1 HC1
    go_wp2_with fail
    refine (FROMBYTES_any A' n' c' b HC.out _ w1.heap.size (Nat.le_refl _) Hb m9 hmN HM).mono ?_
    obtain ⟨⟨⟨⟨y0, y1⟩, y2⟩, y3, y4⟩, hY⟩ : ∃ Y, fbS b = Y := ⟨_, rfl⟩
    have HY := Lib.hid hY
    rw [hY]
    clear hY
    rintro e w3 ⟨v3, u3, rfl, ho3, hn3, hb⟩
    dsimp only at ho3 hn3 ⊢
    replace Hb := Lib.hid (below_bys Hb.out hb)
    replace HB := Lib.hid (HB.out.trans (hb.mono HB.out.size))
    replace HM := Lib.hid ((hb.cell (p := ⟨0, 0, none⟩) hmN).trans HM.out)
    replace hmN := Nat.lt_of_lt_of_le hmN hb.size
    clear hb
    by_cases hf : y4 = 0
    · subst hf
      obtain ⟨r9, xss9, l9, bb, hbb, hfb, hwr⟩ := bytes_back (b := b) (by rw [HY.out])
      rw [HY.out] at hfb
      simp only [Prod.mk.injEq] at hfb
      obtain ⟨⟨⟨rfl, rfl⟩, rfl⟩, rfl, _⟩ := hfb
      have hz9 := Lib.hid (bytes_notes hwr)
      have HW := Lib.hid hwr
      clear hwr
      obtain ⟨A3, c3, rfl, _, _⟩ := ho3.form
      obtain ⟨A5, c5, rfl, _, _⟩ := OwnNts.len hn3
      have N3 : Hid (NtsAt w3 w3.heap.size A5 y2.length y2) := OwnNts.at_ hn3
      clear hn3
      go_upto_region 7 with (fail)
      obtain ⟨Y1, g1, hX, hg, B1, HBX⟩ := sbox_new w3 y0 A3 y1.length c3 y1 ho3.rows
      rw [← hX, ← hg]
      have hb := HBX.out
      clear hX hg HBX ho3
      replace N3 := Lib.hid (below_nts N3.out hb)
      replace Hb := Lib.hid (below_bys Hb.out hb)
      replace HB := Lib.hid (HB.out.trans (hb.mono HB.out.size))
      replace HM := Lib.hid ((hb.cell (p := ⟨0, 0, none⟩) hmN).trans HM.out)
      replace hmN := Nat.lt_of_lt_of_le hmN hb.size
      clear hb
      obtain ⟨p0, p1, _, _⟩ := sbox_cells B1.out
      go_wp2_with fail
      refine (BYTES_any y0 24 A3 A5 y1.length c3 y2.length c5 y1 y2 hz9 _ Y1.heap.size (Nat.le_refl _) B1.out.rows N3).mono ?_
      obtain ⟨⟨s1, f1⟩, hs⟩ : ∃ S, bytesS y0 y1 24 y2 = S := ⟨_, rfl⟩
      have HS1 := Lib.hid hs
      rw [hs]
      clear hs p0 p1
      rintro e w4 ⟨v4, rfl, ho4, hb⟩
      obtain ⟨A4, c4, rfl, hl4, hl4'⟩ := ho4.form
      unfold maxLen at hl4'
      have X4 : Hid (BysAt w4 w4.heap.size A4 s1.length s1) := ho4.at_
      dsimp only at ho4 hl4 hl4' X4 ⊢
      have hs1 : s1.length ≤ 9223372036854775807 := by omega
      clear ho4 hl4 hl4'
      replace B1 := Lib.hid (SBox.below B1.out hb)
      replace N3 := Lib.hid (below_nts N3.out hb)
      replace Hb := Lib.hid (below_bys Hb.out hb)
      replace HB := Lib.hid (HB.out.trans (hb.mono HB.out.size))
      replace HM := Lib.hid ((hb.cell (p := ⟨0, 0, none⟩) hmN).trans HM.out)
      replace hmN := Nat.lt_of_lt_of_le hmN hb.size
      clear hb
      obtain ⟨p0, p1, _, _⟩ := sbox_cells B1.out
      go_wp2_with fail
      refine (BYTES_any y0 16 A3 A5 y1.length c3 y2.length c5 y1 y2 hz9 _ w4.heap.size (Nat.le_refl _) B1.out.rows N3).mono ?_
      obtain ⟨⟨s2, f2⟩, hs⟩ : ∃ S, bytesS y0 y1 16 y2 = S := ⟨_, rfl⟩
      have HS2 := Lib.hid hs
      rw [hs]
      clear hs p0 p1 B1 N3
      rintro e w5 ⟨v5, rfl, ho5, hb⟩
      obtain ⟨A6, c6, rfl, hl5, hl5'⟩ := ho5.form
      unfold maxLen at hl5'
      have X5 : Hid (BysAt w5 w5.heap.size A6 s2.length s2) := ho5.at_
      dsimp only at ho5 hl5 hl5' X5 ⊢
      have hs2 : s2.length ≤ 9223372036854775807 := by omega
      clear ho5 hl5 hl5'
      replace X4 := Lib.hid (below_bys X4.out hb)
      replace Hb := Lib.hid (below_bys Hb.out hb)
      replace HB := Lib.hid (HB.out.trans (hb.mono HB.out.size))
      replace HM := Lib.hid ((hb.cell (p := ⟨0, 0, none⟩) hmN).trans HM.out)
      replace hmN := Nat.lt_of_lt_of_le hmN hb.size
      clear hb
      rcases hbb with rfl | rfl
      · -- 16 bits were read
        have h2 : s2 = b ∧ f2 = 0 := by
          have h := HW.out
          rw [show (((16 : Nat) : Int)) = 16 from rfl, HS2.out] at h
          simpa using h
        obtain ⟨rfl, rfl⟩ := h2
        clear HW HS1 HS2
        by_cases hf1 : f1 = 0
        · subst hf1
          by_cases hsb : s1 = s2
          · have HSB : Hid (decide (s1 = s2) = true) := decide_eq_true hsb
            clear hsb
            go_wp2_with fail
            refine (EQBYTES_any A4 A' s1.length n' c4 c' s1 s2 _ w5.heap.size hs1 X4 Hb).mono ?_
            rw [HSB.out]
            rintro e w6 ⟨rfl, nq, hq⟩
            have hb : Below w5.heap.size w5 w6 := by rw [hq]; exact belowN (Below.refl _ _) nq
            clear hq X4 X5 Hb
            replace HB := Lib.hid (HB.out.trans (hb.mono HB.out.size))
            replace HM := Lib.hid ((hb.cell (p := ⟨0, 0, none⟩) hmN).trans HM.out)
            replace hmN := Nat.lt_of_lt_of_le hmN hb.size
            clear hb
            go_wp2_with fail
            refine (AWAKE_any _).mono ?_
            rintro e w8 ⟨rfl, hb⟩
            replace HB := Lib.hid (HB.out.trans (hb.mono HB.out.size))
            clear hb
            go_wp2_with fail
            go_ret
            exact ⟨rfl, HB.out⟩
          · have HSB : Hid (decide (s1 = s2) = false) := decide_eq_false hsb
            clear hsb
            go_wp2_with fail
            refine (EQBYTES_any A4 A' s1.length n' c4 c' s1 s2 _ w5.heap.size hs1 X4 Hb).mono ?_
            rw [HSB.out]
            rintro e w6 ⟨rfl, nq, hq⟩
            have hb : Below w5.heap.size w5 w6 := by rw [hq]; exact belowN (Below.refl _ _) nq
            clear hq X4
            replace X5 := Lib.hid (below_bys X5.out hb)
            replace Hb := Lib.hid (below_bys Hb.out hb)
            replace HB := Lib.hid (HB.out.trans (hb.mono HB.out.size))
            replace HM := Lib.hid ((hb.cell (p := ⟨0, 0, none⟩) hmN).trans HM.out)
            replace hmN := Nat.lt_of_lt_of_le hmN hb.size
            clear hb
            have hl9 := Hb.out.1
            subst hl9
            go_wp2_with fail
            refine (EQBYTES_same A6 A' s2.length c6 c' s2 _ w6.heap.size hs2 X5 Hb).mono ?_
            rintro e w7 ⟨rfl, nq, hq⟩
            have hb : Below w6.heap.size w6 w7 := by rw [hq]; exact belowN (Below.refl _ _) nq
            clear hq X5 Hb
            replace HB := Lib.hid (HB.out.trans (hb.mono HB.out.size))
            replace HM := Lib.hid ((hb.cell (p := ⟨0, 0, none⟩) hmN).trans HM.out)
            replace hmN := Nat.lt_of_lt_of_le hmN hb.size
            clear hb
            go_wp2_with fail
            refine (AWAKE_any _).mono ?_
            rintro e w8 ⟨rfl, hb⟩
            replace HB := Lib.hid (HB.out.trans (hb.mono HB.out.size))
            clear hb
            go_wp2_with fail
            go_ret
            exact ⟨rfl, HB.out⟩
        · have hf1' : (f1 == 0) = false := by simpa using hf1
          clear hf1
          have hl9 := Hb.out.1
          subst hl9
          go_wp2_with fail
          refine (EQBYTES_same A6 A' s2.length c6 c' s2 _ w5.heap.size hs2 X5 Hb).mono ?_
          rintro e w7 ⟨rfl, nq, hq⟩
          have hb : Below w5.heap.size w5 w7 := by rw [hq]; exact belowN (Below.refl _ _) nq
          clear hq X4 X5 Hb
          replace HB := Lib.hid (HB.out.trans (hb.mono HB.out.size))
          replace HM := Lib.hid ((hb.cell (p := ⟨0, 0, none⟩) hmN).trans HM.out)
          replace hmN := Nat.lt_of_lt_of_le hmN hb.size
          clear hb
          go_wp2_with fail
          refine (AWAKE_any _).mono ?_
          rintro e w8 ⟨rfl, hb⟩
          replace HB := Lib.hid (HB.out.trans (hb.mono HB.out.size))
          clear hb
          go_wp2_with fail
          go_ret
          exact ⟨rfl, HB.out⟩
      · -- 24 bits were read
        have h2 : s1 = b ∧ f1 = 0 := by
          have h := HW.out
          rw [show (((24 : Nat) : Int)) = 24 from rfl, HS1.out] at h
          simpa using h
        obtain ⟨rfl, rfl⟩ := h2
        clear HW HS1 HS2
        have hl9 := Hb.out.1
        subst hl9
        go_wp2_with fail
        refine (EQBYTES_same A4 A' s1.length c4 c' s1 _ w5.heap.size hs1 X4 Hb).mono ?_
        rintro e w7 ⟨rfl, nq, hq⟩
        have hb : Below w5.heap.size w5 w7 := by rw [hq]; exact belowN (Below.refl _ _) nq
        clear hq X4 X5 Hb
        replace HB := Lib.hid (HB.out.trans (hb.mono HB.out.size))
        replace HM := Lib.hid ((hb.cell (p := ⟨0, 0, none⟩) hmN).trans HM.out)
        replace hmN := Nat.lt_of_lt_of_le hmN hb.size
        clear hb
        go_wp2_with fail
        refine (AWAKE_any _).mono ?_
        rintro e w8 ⟨rfl, hb⟩
        replace HB := Lib.hid (HB.out.trans (hb.mono HB.out.size))
        clear hb
        go_wp2_with fail
        go_ret
        exact ⟨rfl, HB.out⟩
    · have hz := fbS_err (b := b) (by rw [HY.out]; exact hf)
      rw [HY.out] at hz
      simp only [Prod.mk.injEq] at hz
      obtain ⟨⟨rfl, rfl⟩, rfl⟩ := hz
      have hq : (y4 != 0) = true := by simpa using hf
      clear hf HY
      obtain ⟨A3, c3, rfl, _, _⟩ := ho3.form
      obtain ⟨A5, c5, rfl, _, _⟩ := OwnNts.len hn3
      dsimp only [List.length_nil] at ho3 ⊢
      clear hn3
      go_upto_region 7 with (fail)
      obtain ⟨Y1, g1, hX, hg, B1, HBX⟩ := sbox_new w3 0 A3 0 c3 [] ho3.rows
      rw [← hX, ← hg]
      have hb := HBX.out
      clear hX hg HBX ho3 Hb
      replace HB := Lib.hid (HB.out.trans (hb.mono HB.out.size))
      replace HM := Lib.hid ((hb.cell (p := ⟨0, 0, none⟩) hmN).trans HM.out)
      replace hmN := Nat.lt_of_lt_of_le hmN hb.size
      clear hb
      obtain ⟨p0, p1, _, _⟩ := sbox_cells B1.out
      go_wp2_with fail
      refine (AWAKE_any _).mono ?_
      rintro e w8 ⟨rfl, hb⟩
      replace HB := Lib.hid (HB.out.trans (hb.mono HB.out.size))
      clear hb
      go_wp2_with fail
      go_ret
      exact ⟨rfl, HB.out⟩
end Go.Proofs.YtlnjildkdmeflaaDoor
