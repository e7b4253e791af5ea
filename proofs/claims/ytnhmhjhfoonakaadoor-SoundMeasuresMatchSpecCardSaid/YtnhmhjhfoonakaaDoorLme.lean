/- SoundMeasuresMatchSpec, walked. -/
import Derived.Test.YtnhmhjhfoonakaaDoorPow
import Derived.Test.YtnhmhjhfoonakaaDoorTbx
set_option linter.unusedSimpArgs false
set_option linter.unusedVariables false
namespace Go.Proofs.YtnhmhjhfoonakaaDoor
open Go.RowKit Go.Dw
set_option maxRecDepth 100000 in
set_option maxHeartbeats 4000000 in
theorem lawMe_walk (r : Int) (A : Option Addr) (n c : Nat) (t p q : Int) (xss : List (List Int)) (w : World) (ht : Hid (TabAt w)) (hh : Hid (RowsAt w w.heap.size A n xss)) :
    Calls Tryd.prog 5 #[.agg #[.int .i64 r, .slice A n c], .int .i64 t, .agg #[.int .i64 p, .int .i64 q]] w fun e w' => e = .returned (.bool true) ∧ Below w.heap.size w w' := by
  obtain ⟨⟨S, T, f⟩, hp⟩ : ∃ z, powS r xss t p q = z := ⟨_, rfl⟩
  obtain ⟨⟨m, g⟩, hc⟩ : ∃ z, croS r xss t = z := ⟨_, rfl⟩
  have E1 := Lib.hid hp
  have E2 := Lib.hid hc
  clear hp hc
  obtain ⟨W, gx, hW, hgx, HHW, HB, HSW⟩ := boxes2 w (.cells #[.int .i64 r, .slice A n c] 24) (.cells #[.int .i64 p, .int .i64 q] 40)
  have hgw := blk_lt HHW.out.2
  obtain ⟨x0, x1, _, _⟩ := two_cells HHW.out.1
  obtain ⟨y0, y1, _, _⟩ := two_cells HHW.out.2
  go_enter Tryd.func5, Tryd.ntmps5
  go_upto_region 1 with (fail)
  rw [← hW, ← hgx]
  clear hW hgx HSW
  go_wp2_with fail
  refine (POWER_any r A n c t p q xss _ w.heap.size HB.out.size (hh.out.below HB.out (Nat.le_refl _))).mono ?_
  rintro e w1 ⟨rfl, hb⟩
  rw [E1.out]
  unfold tup3
  dsimp only
  clear x0 x1 y0 y1
  replace HHW := Lib.hid (And.intro ((hb.block gx (by omega)).trans HHW.out.1) ((hb.block (gx + 1) hgw).trans HHW.out.2))
  replace hgw := Nat.lt_of_lt_of_le hgw hb.size
  replace HB := Lib.hid (HB.out.trans (hb.mono HB.out.size))
  clear hb
  go_upto_region 2 with (fail)
  obtain ⟨X1, g1, hX, hg, B1, HBX, _⟩ := cell_new w1 42 #[.string S, .string T]
  rw [← hX, ← hg]
  replace B1 : Hid (TBox X1 g1 S T) := B1
  replace HHW := Lib.hid (And.intro ((HBX.out.block gx (by omega)).trans HHW.out.1) ((HBX.out.block (gx + 1) hgw).trans HHW.out.2))
  replace hgw := Nat.lt_of_lt_of_le hgw HBX.out.size
  replace HB := Lib.hid (HB.out.trans (HBX.out.mono HB.out.size))
  clear hX hg HBX
  obtain ⟨x0, x1, _, _⟩ := two_cells HHW.out.1
  obtain ⟨y0, y1, _, _⟩ := two_cells HHW.out.2
  go_wp2_with fail
  refine (RPOWER_any r A n c t p q xss _ (Lib.hid (ht.out.below HB.out)) w.heap.size HB.out.size (hh.out.below HB.out (Nat.le_refl _))).mono ?_
  rintro e w2 ⟨rfl, hb⟩
  rw [E1.out]
  unfold tup3
  dsimp only
  clear x0 x1 y0 y1
  replace HHW := Lib.hid (And.intro ((hb.block gx (by omega)).trans HHW.out.1) ((hb.block (gx + 1) hgw).trans HHW.out.2))
  replace hgw := Nat.lt_of_lt_of_le hgw hb.size
  replace HB := Lib.hid (HB.out.trans (hb.mono HB.out.size))
  replace B1 := Lib.hid (B1.out.below hb)
  clear hb
  go_upto_region 3 with (fail)
  obtain ⟨X2, g2, hX, hg, B2, HBX, _⟩ := cell_new w2 42 #[.string S, .string T]
  rw [← hX, ← hg]
  replace B1 := Lib.hid (B1.out.below (HBX.out.mono (Nat.le_refl _)))
  replace B2 : Hid (TBox X2 g2 S T) := B2
  replace HHW := Lib.hid (And.intro ((HBX.out.block gx (by omega)).trans HHW.out.1) ((HBX.out.block (gx + 1) hgw).trans HHW.out.2))
  replace hgw := Nat.lt_of_lt_of_le hgw HBX.out.size
  replace HB := Lib.hid (HB.out.trans (HBX.out.mono HB.out.size))
  clear hX hg HBX
  obtain ⟨x0, x1, _, _⟩ := two_cells HHW.out.1
  obtain ⟨y0, y1, _, _⟩ := two_cells HHW.out.2
  go_wp2_with fail
  refine (CROSSINGS_any r A n c t xss _ w.heap.size HB.out.size (hh.out.below HB.out (Nat.le_refl _))).mono ?_
  rintro e w3 ⟨rfl, hb⟩
  rw [E2.out]
  dsimp only
  clear x0 x1 y0 y1
  replace HHW := Lib.hid (And.intro ((hb.block gx (by omega)).trans HHW.out.1) ((hb.block (gx + 1) hgw).trans HHW.out.2))
  replace hgw := Nat.lt_of_lt_of_le hgw hb.size
  replace HB := Lib.hid (HB.out.trans (hb.mono HB.out.size))
  replace B1 := Lib.hid (B1.out.below hb)
  replace B2 := Lib.hid (B2.out.below hb)
  clear hb
  obtain ⟨x0, x1, _, _⟩ := two_cells HHW.out.1
  obtain ⟨y0, y1, _, _⟩ := two_cells HHW.out.2
  go_wp2_with fail
  refine (RCROSSINGS_any r A n c t xss _ w.heap.size HB.out.size (hh.out.below HB.out (Nat.le_refl _))).mono ?_
  rintro e w4 ⟨rfl, hb⟩
  rw [E2.out]
  dsimp only
  clear x0 x1 y0 y1
  replace B1 := Lib.hid (B1.out.below hb)
  replace B2 := Lib.hid (B2.out.below hb)
  replace HB := Lib.hid (HB.out.trans (hb.mono HB.out.size))
  clear hb HHW hgw
  obtain ⟨B1c0, B1c1, _, _⟩ := two_cells B1.out
  obtain ⟨B2c0, B2c1, _, _⟩ := two_cells B2.out
  go_wp2_with fail
  refine (AWAKE_any _).mono ?_
  rintro e w5 ⟨rfl, hb5⟩
  replace HB := Lib.hid (HB.out.trans (hb5.mono HB.out.size))
  clear hb5
  go_wp2_with fail
  go_ret
  exact ⟨rfl, HB.out⟩
end Go.Proofs.YtnhmhjhfoonakaaDoor
