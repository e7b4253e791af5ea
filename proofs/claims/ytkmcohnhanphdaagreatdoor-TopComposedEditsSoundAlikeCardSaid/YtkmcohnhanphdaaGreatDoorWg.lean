/- num.Frac. -/
import Derived.Test.YtkmcohnhanphdaaGreatDoorYl
import Derived.Test.YtkmcohnhanphdaaGreatDoorYm
set_option linter.unusedSimpArgs false
set_option linter.unusedVariables false
namespace Go.Proofs.YtkmcohnhanphdaaGreatDoor
open Go.RowKit Go.Dw
set_option maxRecDepth 100000 in
set_option maxHeartbeats 2000000 in
theorem QFRAC_any (a b : Int) (h1 : -9223372036854775808 ≤ a) (h2 : a ≤ 9223372036854775807) (h3 : -9223372036854775808 ≤ b) (h4 : b ≤ 9223372036854775807) (hb : b ≠ 0) (w : World) :
    Calls Tryz.prog 83 #[.int .i64 a, .int .i64 b] w (OutQ w ((a : Rat) / b) 2 2) := by
  obtain ⟨W, gx, hW, hgx, HHW, HBW, HSW⟩ := cell_new w 88 #[.bool false, .slice none 0 0, .slice none 0 0]
  have HGX := Lib.hid hgx
  have hgw := blk_lt HHW.out
  go_enter Tryz.func83, Tryz.ntmps83
  go_upto_region 1 with (fail)
  rw [← hW, ← hgx]
  clear hW hgx
  go_upto_region 2 with (fail)
  refine (IOF_any a h1 h2 _).mono ?_
  rintro e w1 ⟨ng1, A1, n1, c1, rfl, h1, k1, hb1⟩
  have H1 := Lib.hid h1
  have HB1 := Lib.hid hb1
  clear h1 hb1
  go_upto_region 2 with (fail)
  refine (IOF_any b h3 h4 _).mono ?_
  rintro e w2 ⟨ng2, A2, n2, c2, rfl, h2, k2, hb2⟩
  have H2 := Lib.hid h2
  have HB2 := Lib.hid (HB1.out.trans (hb2.mono HB1.out.size))
  have HL2 := Lib.hid hb2
  clear h2 hb2
  go_upto_region 2 with (fail)
  obtain ⟨W3, g2, hW, hgx, HH3, HB3, HS3⟩ := boxes2 w2 (.cells #[.bool ng1, .slice A1 n1 c1] 82) (.cells #[.bool ng2, .slice A2 n2 c2] 82)
  have HG2 : Hid (W.heap.size ≤ g2) := by show _ ≤ _; rw [hgx]; exact HB2.out.size
  rw [← hW, ← hgx]
  clear hW hgx
  have HB3 := Lib.hid (HB2.out.trans (HB3.out.mono HB2.out.size))
  have HA := Lib.hid (H1.out.to (HL2.out.trans (by first | exact (by assumption : Hid (Below w2.heap.size w2 W3)).out.mono HL2.out.size)) (Nat.le_refl _) (Nat.le_trans HL2.out.size (by first | exact (by assumption : Hid (Below w2.heap.size w2 W3)).out.size)))
  have HD := Lib.hid (H2.out.to (by assumption : Hid (Below w2.heap.size w2 W3)).out (Nat.le_refl _) (by assumption : Hid (Below w2.heap.size w2 W3)).out.size)
  have hhr := (HB3.out.block gx hgw).trans HHW.out
  obtain ⟨hr0, hr1, hr2, hf0, hf1, hf2⟩ := three_cells hhr
  obtain ⟨ha0, ha1, ha2, ha3⟩ := two_cells HH3.out.1
  obtain ⟨hd0, hd1, _, _⟩ := two_cells HH3.out.2
  have hg3 := blk_lt HH3.out.1
  have HNG := Lib.hid HD.out.1
  have HDP := Lib.hid HD.out.2
  clear H1 H2 HB1 HB2 HL2
  have hbn : 0 < b.natAbs := by omega
  cases ng2 with
  | false =>
    have HQ := Lib.hid (frac_pos a b (by have := HNG.out; simp at this; omega))
    go_upto_region 4 with (fail)
    go_wp2_with fail
    refine (QOVER_any ng1 A1 A2 n1 c1 n2 c2 b.natAbs a (by omega) (by omega) hbn _ W3.heap.size (Nat.le_refl _) HA HDP).mono ?_
    rw [HQ.out]
    clear hr0 hr1 hr2 hf0 hf1 hf2 hhr
    rintro e w4 ⟨ng4, A4, n4, c4, D4, m4, d4, rfl, h4, k4, k5, hb4⟩
    have HB4 := Lib.hid (HB3.out.trans (hb4.mono HB3.out.size))
    have hhx := (HB4.out.block gx hgw).trans HHW.out
    obtain ⟨hr0, hr1, hr2, hf0, hf1, hf2⟩ := three_cells hhx
    have HHX := Lib.hid hhx
    have H4 := Lib.hid h4
    clear hhx h4 hb4
    go_wp2_with fail
    exact end_rat rfl rfl rfl hr0 hr1 hr2 (outQ_set (q := ((a : Rat) / b)) H4.out.1.1 (Nat.le_of_eq HGX.out.symm) ⟨_, _, HHX.out⟩ H4.out.1.2 H4.out.2 (HBW.out.trans (HB4.out.mono (by rw [HSW.out]; omega))) (by omega) (by omega))
  | true =>
    have HQ := Lib.hid (frac_neg a b (by have := HNG.out; simp at this; omega))
    go_upto_region 4 with (fail)
    refine (IMINUS_any ng1 A1 n1 c1 a _ W3.heap.size (Nat.le_refl _) HA).mono ?_
    rintro e w4 ⟨ng4, A4, n4, c4, rfl, h4, k4, hb4⟩
    have hg4 : g2 + 1 < W3.heap.size := blk_lt HH3.out.2
    have hga := (hb4.block g2 hg3).trans HH3.out.1
    obtain ⟨ha0, ha1, ha2, ha3⟩ := two_cells hga
    obtain ⟨hd0, hd1, _, _⟩ := two_cells ((hb4.block (g2 + 1) hg4).trans HH3.out.2)
    have HDQ := Lib.hid (HDP.out.to hb4 (Nat.le_refl _) hb4.size)
    have hgx2 : W.heap.size ≤ g2 := HG2.out
    go_upto_region 4 with (fail)
    obtain ⟨W5, hW5⟩ : ∃ W5, W5 = (w4.setCell ⟨g2, 0, none⟩ (.bool ng4)).setCell ⟨g2, 1, none⟩ (.slice A4 n4 c4) := ⟨_, rfl⟩
    have hty : TyAt 82 w4 g2 := ⟨_, _, hga⟩
    have hb5 : Below W.heap.size w4 W5 := by rw [hW5]; exact set2_below' (Below.refl _ _) hgx2
    have hs5 : W5.heap.size = w4.heap.size := by rw [hW5]; simp
    have ha0' : W5.cell? ⟨g2, 0, none⟩ = some (.bool ng4) := by rw [hW5]; exact (two_set' w4 g2 _ _ _ _ ha0 ha1).1
    have ha1' : W5.cell? ⟨g2, 1, none⟩ = some (.slice A4 n4 c4) := by rw [hW5]; exact (two_set' w4 g2 _ _ _ _ ha0 ha1).2
    have hd1' : W5.cell? ⟨g2 + 1, 1, none⟩ = some (.slice A2 n2 c2) := by
      rw [hW5, World.cell?_setCell_other _ _ _ _ (by simp), World.cell?_setCell_other _ _ _ _ (by simp)]; exact hd1
    have HA5 : Hid (IntAt W5 W5.heap.size ng4 A4 n4 c4 (-a)) := by
      show IntAt _ _ _ _ _ _ _
      rw [hs5, hW5]
      exact ⟨h4.1, (h4.2.set_far (p := ⟨g2, 0, none⟩) hty (by decide) _).set_far (p := ⟨g2, 1, none⟩) (hty.set _ _) (by decide) _⟩
    have HD5 : Hid (NumAt .u32 164 4294967296 W5 W5.heap.size A2 n2 c2 b.natAbs) := by
      show NumAt _ _ _ _ _ _ _ _ _
      rw [hs5, hW5]
      exact (HDQ.out.set_far (p := ⟨g2, 0, none⟩) hty (by decide) _).set_far (p := ⟨g2, 1, none⟩) (hty.set _ _) (by decide) _
    have HB5 : Hid (Below W.heap.size W W5) := (HB3.out.trans (hb4.mono HB3.out.size)).trans hb5
    rw [← hW5]
    clear hW5 hty hb5 hs5 ha0 ha1 hd1 hb4 h4 hd0 ha2 ha3 hga HDQ HA HDP HD hr0 hr1 hr2 hf0 hf1 hf2 hhr
    go_wp2_with fail
    refine (QOVER_any ng4 A4 A2 n4 c4 n2 c2 b.natAbs (-a) (by omega) (by omega) hbn _ W5.heap.size (Nat.le_refl _) HA5 HD5).mono ?_
    rw [HQ.out]
    rintro e w6 ⟨ng6, A6, n6, c6, D6, m6, d6, rfl, h6, k6, k7, hb6⟩
    have HB6 := Lib.hid (HB5.out.trans (hb6.mono HB5.out.size))
    have hhx := (HB6.out.block gx hgw).trans HHW.out
    obtain ⟨hr0, hr1, hr2, hf0, hf1, hf2⟩ := three_cells hhx
    have HHX := Lib.hid hhx
    have H6 := Lib.hid h6
    clear hhx h6 hb6
    go_wp2_with fail
    exact end_rat rfl rfl rfl hr0 hr1 hr2 (outQ_set (q := ((a : Rat) / b)) H6.out.1.1 (Nat.le_of_eq HGX.out.symm) ⟨_, _, HHX.out⟩ H6.out.1.2 H6.out.2 (HBW.out.trans (HB6.out.mono (by rw [HSW.out]; omega))) (by omega) (by omega))
end Go.Proofs.YtkmcohnhanphdaaGreatDoor
/- clock.RatioOf. -/
namespace Go.Proofs.YtkmcohnhanphdaaGreatDoor
open Go.RowKit Go.Dw
end Go.Proofs.YtkmcohnhanphdaaGreatDoor
/- RoundsAreNear, plain. -/
namespace Go.Proofs.YtkmcohnhanphdaaGreatDoor
open Go.RowKit Go.Dw
end Go.Proofs.YtkmcohnhanphdaaGreatDoor
