/- SoundNormalMatchesSpec, walked. -/
import Derived.Test.YtnhmhjhfoonakaaGreatDoorNob
import Derived.Test.YtnhmhjhfoonakaaGreatDoorWf
import Derived.Test.YtnhmhjhfoonakaaGreatDoorWb
set_option linter.unusedSimpArgs false
set_option linter.unusedVariables false
namespace Go.Proofs.YtnhmhjhfoonakaaGreatDoor
open Go.RowKit Go.Dw
set_option maxRecDepth 100000 in
set_option maxHeartbeats 4000000 in
theorem lawNo_walk (r : Int) (A : Option Addr) (n c : Nat) (want : Int) (xss : List (List Int)) (w : World) (htab : Hid (TabAt w)) (hh : Hid (RowsAt w w.heap.size A n xss)) :
    Calls Tryz.prog 5 #[.agg #[.int .i64 r, .slice A n c], .int .i64 want] w fun e w' => e = .returned (.bool true) ∧ Below w.heap.size w w' := by
  obtain ⟨⟨zr, zx, zS, zT, zf⟩, hZ⟩ : ∃ Z, normS r xss want = Z := ⟨_, rfl⟩
  have HZ := Lib.hid hZ
  clear hZ
  have hst : sameS zr zx zr zx = true := by simp [sameS]
  obtain ⟨W, gx, hW, hgx, B0, HB⟩ := sbox_new w r A n c xss hh.out
  obtain ⟨x0, x1, _, _⟩ := sbox_cells B0.out
  go_enter Tryz.func5, Tryz.ntmps5
  go_upto_region 1 with (fail)
  rw [← hW, ← hgx]
  clear hW hgx
  go_wp2_with fail
  refine (NORMAL_any r A n c want xss _ W.heap.size (Nat.le_refl _) B0.out.rows).mono ?_
  rw [HZ.out]
  rintro e w1 ⟨v1, rfl, ho1, hb⟩
  obtain ⟨A1, c1, rfl, _, _⟩ := ho1.form
  dsimp only at ho1 ⊢
  clear x0 x1
  replace B0 := Lib.hid (B0.out.below hb)
  replace HB := Lib.hid (HB.out.trans (hb.mono HB.out.size))
  clear hb
  go_upto_region 2 with (fail)
  obtain ⟨X1, g1, hX, hg, HBB, HBX, _⟩ := boxes2 w1 (.cells #[.int .i64 zr, .slice A1 zx.length c1] 24) (.cells #[.string zS, .string zT] 26)
  have B1 : Hid (SBox X1 g1 zr A1 zx.length c1 zx) := ⟨HBB.out.1, (ho1.rows.below HBX.out (Nat.le_refl _)).mono HBX.out.size⟩
  obtain ⟨t1, ht⟩ : ∃ t, t = g1 + 1 := ⟨_, rfl⟩
  have T1 : Hid (TBox X1 t1 zS zT) := by rw [ht]; exact HBB.out.2
  rw [← hX, ← hg, ← ht]
  replace B0 := Lib.hid (B0.out.below HBX.out)
  replace HB := Lib.hid (HB.out.trans (HBX.out.mono HB.out.size))
  clear hX hg ht HBX HBB ho1
  obtain ⟨x0, x1, _, _⟩ := sbox_cells B0.out
  go_wp2_with fail
  refine (RNORMAL_any r A n c want xss _ (Lib.hid (htab.out.below HB.out)) X1.heap.size (Nat.le_refl _) B0.out.rows).mono ?_
  rw [HZ.out]
  rintro e w2 ⟨v2, rfl, ho2, hb⟩
  obtain ⟨A2, c2, rfl, _, _⟩ := ho2.form
  dsimp only at ho2 ⊢
  clear x0 x1
  replace B1 := Lib.hid (B1.out.below hb)
  replace T1 := Lib.hid (T1.out.below hb)
  replace B0 := Lib.hid (B0.out.below hb)
  replace HB := Lib.hid (HB.out.trans (hb.mono HB.out.size))
  clear hb
  go_upto_region 3 with (fail)
  obtain ⟨X2, g2, hX, hg, HBB, HBX, _⟩ := boxes2 w2 (.cells #[.int .i64 zr, .slice A2 zx.length c2] 24) (.cells #[.string zS, .string zT] 26)
  have B2 : Hid (SBox X2 g2 zr A2 zx.length c2 zx) := ⟨HBB.out.1, (ho2.rows.below HBX.out (Nat.le_refl _)).mono HBX.out.size⟩
  obtain ⟨t2, ht⟩ : ∃ t, t = g2 + 1 := ⟨_, rfl⟩
  have T2 : Hid (TBox X2 t2 zS zT) := by rw [ht]; exact HBB.out.2
  rw [← hX, ← hg, ← ht]
  replace B1 := Lib.hid (B1.out.below HBX.out)
  replace T1 := Lib.hid (T1.out.below HBX.out)
  replace B0 := Lib.hid (B0.out.below HBX.out)
  replace HB := Lib.hid (HB.out.trans (HBX.out.mono HB.out.size))
  clear hX hg ht HBX HBB ho2
  obtain ⟨p0, p1, _, _⟩ := sbox_cells B1.out
  obtain ⟨q0, q1, _, _⟩ := sbox_cells B2.out
  go_wp2_with fail
  refine (SAME_any _ _ _ _ _ _ _ _ zx zx _ X2.heap.size (Nat.le_refl _) B1.out.rows B2.out.rows).mono ?_
  rintro e w3 ⟨rfl, hb⟩
  rw [hst]
  replace T1 := Lib.hid (T1.out.below hb)
  replace T2 := Lib.hid (T2.out.below hb)
  replace HB := Lib.hid (HB.out.trans (hb.mono HB.out.size))
  clear hb p0 p1 q0 q1
  obtain ⟨p0, p1, _, _⟩ := two_cells T1.out
  obtain ⟨q0, q1, _, _⟩ := two_cells T2.out
  go_wp2_with fail
  refine (AWAKE_any _).mono ?_
  rintro e w4 ⟨rfl, hb⟩
  replace HB := Lib.hid (HB.out.trans (hb.mono HB.out.size))
  clear hb
  go_wp2_with fail
  go_ret
  exact ⟨rfl, HB.out⟩
end Go.Proofs.YtnhmhjhfoonakaaGreatDoor
