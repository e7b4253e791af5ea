/- SoundRoutesMatchSpec, walked. -/
import Derived.Test.YtnhmhjhfoonakaaGreatDoorWk
import Derived.Test.YtnhmhjhfoonakaaGreatDoorWi
import Derived.Test.YtnhmhjhfoonakaaGreatDoorWf
import Derived.Test.YtnhmhjhfoonakaaGreatDoorWb
set_option linter.unusedSimpArgs false
set_option linter.unusedVariables false
namespace Go.Proofs.YtnhmhjhfoonakaaGreatDoor
open Go.RowKit Go.Dw
set_option maxRecDepth 100000 in
set_option maxHeartbeats 4000000 in
theorem lawRt_walk (r : Int) (A AM : Option Addr) (n c pm cm : Nat) (xss : List (List Int)) (m : List (List Rx)) (w : World) (htab : Hid (TabAt w)) (hh : Hid (RowsAt w w.heap.size A n xss)) (hM : Hid (MatAt w w.heap.size AM pm m)) :
    Calls Tryz.prog 4 #[.agg #[.int .i64 r, .slice A n c], .slice AM pm cm] w fun e w' => e = .returned (.bool true) ∧ Below w.heap.size w w' := by
  obtain ⟨⟨z0, z1, z2, z3⟩, hZ⟩ : ∃ Z, rouS r xss m = Z := ⟨_, rfl⟩
  have HZ := Lib.hid hZ
  clear hZ
  have hst : sameS z0 z1 z0 z1 = true := by simp [sameS]
  obtain ⟨W, gx, hW, hgx, B0, HB⟩ := sbox_new w r A n c xss hh.out
  have HM : Hid (MatAt W W.heap.size AM pm m) := (hM.out.below HB.out (Nat.le_refl _)).mono HB.out.size
  obtain ⟨x0, x1, _, _⟩ := sbox_cells B0.out
  go_enter Tryz.func4, Tryz.ntmps4
  go_upto_region 1 with (fail)
  rw [← hW, ← hgx]
  clear hW hgx
  go_wp2_with fail
  refine (ROUTE_any r A AM n c pm cm xss m _ W.heap.size (Nat.le_refl _) B0.out.rows HM.out).mono ?_
  rw [HZ.out]
  rintro e w1 ⟨v1, rfl, ho1, hb⟩
  obtain ⟨A1, c1, rfl, _, _⟩ := ho1.form
  dsimp only at ho1 ⊢
  clear x0 x1
  replace B0 := Lib.hid (B0.out.below hb)
  replace HM := Lib.hid ((HM.out.below hb (Nat.le_refl _)).mono hb.size)
  replace HB := Lib.hid (HB.out.trans (hb.mono HB.out.size))
  clear hb
  go_upto_region 2 with (fail)
  obtain ⟨X1, g1, hX, hg, B1, HBX⟩ := sbox_new w1 z0 A1 z1.length c1 z1 ho1.rows
  rw [← hX, ← hg]
  replace B0 := Lib.hid (B0.out.below HBX.out)
  replace HM := Lib.hid ((HM.out.below HBX.out (Nat.le_refl _)).mono HBX.out.size)
  replace HB := Lib.hid (HB.out.trans (HBX.out.mono HB.out.size))
  clear hX hg HBX ho1
  obtain ⟨x0, x1, _, _⟩ := sbox_cells B0.out
  go_wp2_with fail
  refine (RROUTE_any r A AM n c pm cm xss m _ (Lib.hid (htab.out.below HB.out)) X1.heap.size (Nat.le_refl _) B0.out.rows HM.out).mono ?_
  rw [HZ.out]
  rintro e w2 ⟨v2, rfl, ho2, hb⟩
  obtain ⟨A2, c2, rfl, _, _⟩ := ho2.form
  dsimp only at ho2 ⊢
  clear x0 x1 B0 HM
  replace B1 := Lib.hid (B1.out.below hb)
  replace HB := Lib.hid (HB.out.trans (hb.mono HB.out.size))
  clear hb
  go_upto_region 3 with (fail)
  obtain ⟨X2, g2, hX, hg, B2, HBX⟩ := sbox_new w2 z0 A2 z1.length c2 z1 ho2.rows
  rw [← hX, ← hg]
  replace B1 := Lib.hid (B1.out.below HBX.out)
  replace HB := Lib.hid (HB.out.trans (HBX.out.mono HB.out.size))
  clear hX hg HBX ho2
  obtain ⟨p0, p1, _, _⟩ := sbox_cells B1.out
  obtain ⟨q0, q1, _, _⟩ := sbox_cells B2.out
  go_wp2_with fail
  refine (SAME_any _ _ _ _ _ _ _ _ z1 z1 _ X2.heap.size (Nat.le_refl _) B1.out.rows B2.out.rows).mono ?_
  rintro e w3 ⟨rfl, hb⟩
  rw [hst]
  replace HB := Lib.hid (HB.out.trans (hb.mono HB.out.size))
  clear hb p0 p1 q0 q1
  go_wp2_with fail
  refine (AWAKE_any _).mono ?_
  rintro e w4 ⟨rfl, hb⟩
  replace HB := Lib.hid (HB.out.trans (hb.mono HB.out.size))
  clear hb
  go_wp2_with fail
  go_ret
  exact ⟨rfl, HB.out⟩
end Go.Proofs.YtnhmhjhfoonakaaGreatDoor
