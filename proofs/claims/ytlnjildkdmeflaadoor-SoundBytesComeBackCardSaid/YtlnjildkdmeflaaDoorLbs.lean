/- SoundBytesMatchSpec, walked. -/
import Derived.Test.YtlnjildkdmeflaaDoorYrj
import Derived.Test.YtlnjildkdmeflaaDoorYeq
import Derived.Test.YtlnjildkdmeflaaDoorWf
import Derived.Test.YtlnjildkdmeflaaDoorWb
import Derived.Test.YtlnjildkdmeflaaDoorWb
set_option linter.unusedSimpArgs false
set_option linter.unusedVariables false
namespace Go.Proofs.YtlnjildkdmeflaaDoor
open Go.RowKit Go.Dw
theorem below_bys {w w' : World} {A : Option Addr} {n : Nat} {b : By} (h : BysAt w w.heap.size A n b) (hb : Below w.heap.size w w') : BysAt w' w'.heap.size A n b := (h.below hb (Nat.le_refl _)).mono hb.size
theorem below_nts {w w' : World} {A : Option Addr} {n : Nat} {l : List Nx} (h : NtsAt w w.heap.size A n l) (hb : Below w.heap.size w w') : NtsAt w' w'.heap.size A n l := (h.below hb (Nat.le_refl _)).mono hb.size
set_option maxRecDepth 100000 in
set_option maxHeartbeats 4000000 in
theorem lawBs_walk (r bits : Int) (A AN A' : Option Addr) (n c nn cN n' c' : Nat) (xss : List (List Int)) (l : List Nx) (b : By) (w : World) (hz : Hid (∀ x ∈ l, x.1.size ≤ maxLen ∧ x.2.size ≤ maxLen)) (hc : n' ≤ c' ∧ c' ≤ maxLen)
    (hh : Hid (RowsAt w w.heap.size A n xss)) (HN0 : Hid (NtsAt w w.heap.size AN nn l)) (Hb0 : Hid (BysAt w w.heap.size A' n' b)) (m9 : Int) (hmN : 0 < w.heap.size) (HM : Hid (w.cell? ⟨0, 0, none⟩ = some (.int .i64 m9))) :
    Calls Tryd.prog 3 #[.agg #[.int .i64 r, .slice A n c], .int .i64 bits, .slice AN nn cN, .slice A' n' c'] w fun e w' => e = .returned (.bool true) ∧ Below w.heap.size w w' := by
  have HC := Lib.hid hc
  clear hc
  obtain ⟨⟨z0, z1⟩, hZ⟩ : ∃ Z, bytesS r xss bits l = Z := ⟨_, rfl⟩
  have HZ := Lib.hid hZ
  clear hZ
  obtain ⟨⟨⟨⟨y0, y1⟩, y2⟩, y3, y4⟩, hY⟩ : ∃ Y, fbS b = Y := ⟨_, rfl⟩
  have HY := Lib.hid hY
  clear hY
  have hst : sameS y0 y1 y0 y1 = true := by simp [sameS]
  have he1 : (z1 == z1) = true := by simp
  have he3 : (y3 == y3) = true := by simp
  have he4 : (y4 == y4) = true := by simp
  obtain ⟨W, gx, hW, hgx, B0, HB⟩ := sbox_new w r A n c xss hh.out
  have HN : Hid (NtsAt W W.heap.size AN nn l) := below_nts HN0.out HB.out
  have Hb : Hid (BysAt W W.heap.size A' n' b) := below_bys Hb0.out HB.out
  replace HM := Lib.hid ((HB.out.cell (p := ⟨0, 0, none⟩) hmN).trans HM.out)
  replace hmN := Nat.lt_of_lt_of_le hmN HB.out.size
  obtain ⟨x0, x1, _, _⟩ := sbox_cells B0.out
  go_enter Tryd.func3, Tryd.ntmps3
  go_upto_region 1 with (fail)
  rw [← hW, ← hgx]
  clear hW hgx HN0 Hb0 hh
  go_wp2_with fail
  refine (BYTES_any r bits A AN n c nn cN xss l hz _ W.heap.size (Nat.le_refl _) B0.out.rows HN).mono ?_
  rw [HZ.out]
  rintro e w1 ⟨v1, rfl, ho1, hb⟩
  obtain ⟨A1, c1, rfl, hl1, hl2⟩ := ho1.form
  unfold maxLen at hl2
  have X1 : Hid (BysAt w1 w1.heap.size A1 z0.length z0) := ho1.at_
  dsimp only at ho1 hl1 hl2 X1 ⊢
  have hz63 : z0.length ≤ 9223372036854775807 := by omega
  clear ho1 hl1 hl2 x0 x1
  replace B0 := Lib.hid (SBox.below B0.out hb)
  replace HN := Lib.hid (below_nts HN.out hb)
  replace Hb := Lib.hid (below_bys Hb.out hb)
  replace HB := Lib.hid (HB.out.trans (hb.mono HB.out.size))
  replace HM := Lib.hid ((hb.cell (p := ⟨0, 0, none⟩) hmN).trans HM.out)
  replace hmN := Nat.lt_of_lt_of_le hmN hb.size
  clear hb
  obtain ⟨x0, x1, _, _⟩ := sbox_cells B0.out
  go_wp2_with fail
  refine (RBYTES_any r bits A AN n c nn cN xss l hz _ w1.heap.size (Nat.le_refl _) B0.out.rows HN).mono ?_
  rw [HZ.out]
  rintro e w2 ⟨v2, rfl, ho2, hb⟩
  obtain ⟨A2, c2, rfl, _, _⟩ := ho2.form
  have X2 : Hid (BysAt w2 w2.heap.size A2 z0.length z0) := ho2.at_
  dsimp only at ho2 X2 ⊢
  clear ho2 x0 x1 B0 HN
  replace X1 := Lib.hid (below_bys X1.out hb)
  replace Hb := Lib.hid (below_bys Hb.out hb)
  replace HB := Lib.hid (HB.out.trans (hb.mono HB.out.size))
  replace HM := Lib.hid ((hb.cell (p := ⟨0, 0, none⟩) hmN).trans HM.out)
  replace hmN := Nat.lt_of_lt_of_le hmN hb.size
  clear hb
  go_wp2_with fail
  refine (FROMBYTES_any A' n' c' b HC.out _ w2.heap.size (Nat.le_refl _) Hb m9 hmN HM).mono ?_
  rw [HY.out]
  rintro e w3 ⟨v3, u3, rfl, ho3, hn3, hb⟩
  obtain ⟨A3, c3, rfl, _, _⟩ := ho3.form
  obtain ⟨A5, c5, rfl, hl1, hl2⟩ := OwnNts.len hn3
  unfold maxLen at hl2
  have N3 : Hid (NtsAt w3 w3.heap.size A5 y2.length y2) := OwnNts.at_ hn3
  dsimp only at ho3 hl1 hl2 N3 ⊢
  have hy63 : y2.length ≤ 9223372036854775807 := by omega
  clear hn3 hl1 hl2
  replace X1 := Lib.hid (below_bys X1.out hb)
  replace X2 := Lib.hid (below_bys X2.out hb)
  replace Hb := Lib.hid (below_bys Hb.out hb)
  replace HB := Lib.hid (HB.out.trans (hb.mono HB.out.size))
  replace HM := Lib.hid ((hb.cell (p := ⟨0, 0, none⟩) hmN).trans HM.out)
  replace hmN := Nat.lt_of_lt_of_le hmN hb.size
  clear hb
  go_upto_region 4 with (fail)
  obtain ⟨Y1, g1, hX, hg, B1, HBX⟩ := sbox_new w3 y0 A3 y1.length c3 y1 ho3.rows
  rw [← hX, ← hg]
  have hb := HBX.out
  clear hX hg HBX ho3
  replace X1 := Lib.hid (below_bys X1.out hb)
  replace X2 := Lib.hid (below_bys X2.out hb)
  replace N3 := Lib.hid (below_nts N3.out hb)
  replace Hb := Lib.hid (below_bys Hb.out hb)
  replace HB := Lib.hid (HB.out.trans (hb.mono HB.out.size))
  replace HM := Lib.hid ((hb.cell (p := ⟨0, 0, none⟩) hmN).trans HM.out)
  replace hmN := Nat.lt_of_lt_of_le hmN hb.size
  clear hb
  go_wp2_with fail
  refine (RFROMBYTES_any A' n' c' b HC.out _ Y1.heap.size (Nat.le_refl _) Hb m9 hmN HM).mono ?_
  rw [HY.out]
  rintro e w4 ⟨v4, u4, rfl, ho4, hn4, hb⟩
  obtain ⟨A4, c4, rfl, _, _⟩ := ho4.form
  obtain ⟨A6, c6, rfl, _, _⟩ := OwnNts.len hn4
  have N4 : Hid (NtsAt w4 w4.heap.size A6 y2.length y2) := OwnNts.at_ hn4
  dsimp only at ho4 N4 ⊢
  clear hn4 Hb
  replace X1 := Lib.hid (below_bys X1.out hb)
  replace X2 := Lib.hid (below_bys X2.out hb)
  replace N3 := Lib.hid (below_nts N3.out hb)
  replace B1 := Lib.hid (SBox.below B1.out hb)
  replace HB := Lib.hid (HB.out.trans (hb.mono HB.out.size))
  replace HM := Lib.hid ((hb.cell (p := ⟨0, 0, none⟩) hmN).trans HM.out)
  replace hmN := Nat.lt_of_lt_of_le hmN hb.size
  clear hb
  go_upto_region 5 with (fail)
  obtain ⟨Y2, g2, hX, hg, B2, HBX⟩ := sbox_new w4 y0 A4 y1.length c4 y1 ho4.rows
  rw [← hX, ← hg]
  have hb := HBX.out
  clear hX hg HBX ho4
  replace X1 := Lib.hid (below_bys X1.out hb)
  replace X2 := Lib.hid (below_bys X2.out hb)
  replace N3 := Lib.hid (below_nts N3.out hb)
  replace N4 := Lib.hid (below_nts N4.out hb)
  replace B1 := Lib.hid (SBox.below B1.out hb)
  replace HB := Lib.hid (HB.out.trans (hb.mono HB.out.size))
  replace HM := Lib.hid ((hb.cell (p := ⟨0, 0, none⟩) hmN).trans HM.out)
  replace hmN := Nat.lt_of_lt_of_le hmN hb.size
  clear hb
  obtain ⟨p0, p1, _, _⟩ := sbox_cells B1.out
  obtain ⟨q0, q1, _, _⟩ := sbox_cells B2.out
  go_wp2_with fail
  refine (EQBYTES_same A1 A2 z0.length c1 c2 z0 _ Y2.heap.size hz63 X1 X2).mono ?_
  rintro e w5 ⟨rfl, nq, h5⟩
  have hb : Below Y2.heap.size Y2 w5 := by rw [h5]; exact belowN (Below.refl _ _) nq
  clear h5 p0 p1 q0 q1 X1 X2
  replace N3 := Lib.hid (below_nts N3.out hb)
  replace N4 := Lib.hid (below_nts N4.out hb)
  replace B1 := Lib.hid (SBox.below B1.out hb)
  replace B2 := Lib.hid (SBox.below B2.out hb)
  replace HB := Lib.hid (HB.out.trans (hb.mono HB.out.size))
  replace HM := Lib.hid ((hb.cell (p := ⟨0, 0, none⟩) hmN).trans HM.out)
  replace hmN := Nat.lt_of_lt_of_le hmN hb.size
  clear hb
  obtain ⟨p0, p1, _, _⟩ := sbox_cells B1.out
  obtain ⟨q0, q1, _, _⟩ := sbox_cells B2.out
  go_wp2_with fail
  refine (SAME_any _ _ _ _ _ _ _ _ y1 y1 _ w5.heap.size (Nat.le_refl _) B1.out.rows B2.out.rows).mono ?_
  rintro e w6 ⟨rfl, hb⟩
  rw [hst]
  clear p0 p1 q0 q1 B1 B2
  replace N3 := Lib.hid (below_nts N3.out hb)
  replace N4 := Lib.hid (below_nts N4.out hb)
  replace HB := Lib.hid (HB.out.trans (hb.mono HB.out.size))
  replace HM := Lib.hid ((hb.cell (p := ⟨0, 0, none⟩) hmN).trans HM.out)
  replace hmN := Nat.lt_of_lt_of_le hmN hb.size
  clear hb
  go_wp2_with fail
  refine (EQNOTES_same A5 A6 y2.length c5 c6 y2 _ w6.heap.size hy63 N3 N4).mono ?_
  rintro e w7 ⟨rfl, nq, h7⟩
  have hb : Below w6.heap.size w6 w7 := by rw [h7]; exact belowN (Below.refl _ _) nq
  clear h7 N3 N4
  replace HB := Lib.hid (HB.out.trans (hb.mono HB.out.size))
  replace HM := Lib.hid ((hb.cell (p := ⟨0, 0, none⟩) hmN).trans HM.out)
  replace hmN := Nat.lt_of_lt_of_le hmN hb.size
  clear hb
  go_wp2_with fail
  refine (AWAKE_any _).mono ?_
  rintro e w8 ⟨rfl, hb⟩
  replace HB := Lib.hid (HB.out.trans (hb.mono HB.out.size))
  clear hb
  go_wp2_with fail
  go_ret
  exact ⟨rfl, HB.out⟩
end Go.Proofs.YtlnjildkdmeflaaDoor
