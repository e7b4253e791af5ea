/- SoundSpansMatchSpec, walked. -/
import Derived.Test.YtnhmhjhfoonakaaRcl
import Derived.Test.YtnhmhjhfoonakaaCli
import Derived.Test.YtnhmhjhfoonakaaWb
set_option linter.unusedSimpArgs false
set_option linter.unusedVariables false
namespace Go.Proofs.Ytnhmhjhfoonakaa
open Go.RowKit Go.Dw
theorem few_len (l : List Pr) : (fewS l).1.length ≤ 1000 := by
  unfold fewS
  split
  · simp
  · simp; omega
theorem sile_len (r : Int) (xss : List (List Int)) (level least : Int) : (sileS r xss level least).1.length ≤ 1000 := by
  unfold sileS
  split
  · simp
  · split
    · simp
    · exact few_len _
theorem cli_len (r : Int) (xss : List (List Int)) (run : Int) : (cliS r xss run).1.length ≤ 1000 := by
  unfold cliS
  split
  · simp
  · split
    · simp
    · exact few_len _
set_option maxRecDepth 100000 in
set_option maxHeartbeats 4000000 in
theorem lawSn_walk (r : Int) (A : Option Addr) (n c : Nat) (level least run : Int) (xss : List (List Int)) (w : World) (hh : Hid (RowsAt w w.heap.size A n xss)) :
    Calls Try.prog 5 #[.agg #[.int .i64 r, .slice A n c], .int .i64 level, .int .i64 least, .int .i64 run] w fun e w' => e = .returned (.bool true) ∧ Below w.heap.size w w' := by
  have hl1 := sile_len r xss level least
  have hl2 := cli_len r xss run
  obtain ⟨⟨z1, f1⟩, hz1⟩ : ∃ p, sileS r xss level least = p := ⟨_, rfl⟩
  obtain ⟨⟨z2, f2⟩, hz2⟩ : ∃ p, cliS r xss run = p := ⟨_, rfl⟩
  have HZ1 := Lib.hid hz1
  have HZ2 := Lib.hid hz2
  rw [hz1] at hl1
  rw [hz2] at hl2
  dsimp only at hl1 hl2
  clear hz1 hz2
  obtain ⟨W, gx, hW, hgx, B0, HB⟩ := sbox_new w r A n c xss hh.out
  obtain ⟨x0, x1, _, _⟩ := sbox_cells B0.out
  go_enter Try.func5, Try.ntmps5
  go_upto_region 1 with (fail)
  rw [← hW, ← hgx]
  clear hW hgx
  go_wp2_with fail
  refine (SILENCES_any r A n c xss level least _ W.heap.size (Nat.le_refl _) B0.out.rows).mono ?_
  rw [HZ1.out]
  rintro e w1 ⟨v1, rfl, ho1, hb⟩
  obtain ⟨A1, c1, rfl, hc1, hm1⟩ := ho1.len
  dsimp only at ho1 hc1 ⊢
  clear x0 x1
  replace B0 := Lib.hid (B0.out.below hb)
  replace HB := Lib.hid (HB.out.trans (hb.mono HB.out.size))
  have P1 := Lib.hid ho1.at_
  clear hb ho1
  obtain ⟨x0, x1, _, _⟩ := sbox_cells B0.out
  go_wp2_with fail
  refine (RSILENCES_any r A n c xss level least _ w1.heap.size (Nat.le_refl _) B0.out.rows).mono ?_
  rw [HZ1.out]
  rintro e w2 ⟨v2, rfl, ho2, hb⟩
  obtain ⟨A2, c2, rfl, hc2, hm2⟩ := ho2.len
  dsimp only at ho2 hc2 ⊢
  clear x0 x1
  replace B0 := Lib.hid (B0.out.below hb)
  replace HB := Lib.hid (HB.out.trans (hb.mono HB.out.size))
  replace P1 := Lib.hid ((P1.out.below hb (Nat.le_refl _)).mono hb.size)
  have P2 := Lib.hid ho2.at_
  clear hb ho2
  obtain ⟨x0, x1, _, _⟩ := sbox_cells B0.out
  go_wp2_with fail
  refine (CLIPS_any r A n c xss run _ w2.heap.size (Nat.le_refl _) B0.out.rows).mono ?_
  rw [HZ2.out]
  rintro e w3 ⟨v3, rfl, ho3, hb⟩
  obtain ⟨A3, c3, rfl, hc3, hm3⟩ := ho3.len
  dsimp only at ho3 hc3 ⊢
  clear x0 x1
  replace B0 := Lib.hid (B0.out.below hb)
  replace HB := Lib.hid (HB.out.trans (hb.mono HB.out.size))
  replace P1 := Lib.hid ((P1.out.below hb (Nat.le_refl _)).mono hb.size)
  replace P2 := Lib.hid ((P2.out.below hb (Nat.le_refl _)).mono hb.size)
  have P3 := Lib.hid ho3.at_
  clear hb ho3
  obtain ⟨x0, x1, _, _⟩ := sbox_cells B0.out
  go_wp2_with fail
  refine (RCLIPS_any r A n c xss run _ w3.heap.size (Nat.le_refl _) B0.out.rows).mono ?_
  rw [HZ2.out]
  rintro e w4 ⟨v4, rfl, ho4, hb⟩
  obtain ⟨A4, c4, rfl, hc4, hm4⟩ := ho4.len
  dsimp only at ho4 hc4 ⊢
  clear x0 x1
  replace B0 := Lib.hid (B0.out.below hb)
  replace HB := Lib.hid (HB.out.trans (hb.mono HB.out.size))
  replace P1 := Lib.hid ((P1.out.below hb (Nat.le_refl _)).mono hb.size)
  replace P2 := Lib.hid ((P2.out.below hb (Nat.le_refl _)).mono hb.size)
  replace P3 := Lib.hid ((P3.out.below hb (Nat.le_refl _)).mono hb.size)
  have P4 := Lib.hid ho4.at_
  clear hb ho4 HZ1 HZ2
  go_wp2_with fail
  refine (SPEQUAL_same A1 A2 z1.length c1 c2 z1 (by omega) _ w4.heap.size (Nat.le_refl _) ⟨hc1, hm1⟩ ⟨hc2, hm2⟩ P1 P2).mono ?_
  rintro e w5 ⟨rfl, hb⟩
  replace HB := Lib.hid (HB.out.trans (hb.mono HB.out.size))
  replace P3 := Lib.hid ((P3.out.below hb (Nat.le_refl _)).mono hb.size)
  replace P4 := Lib.hid ((P4.out.below hb (Nat.le_refl _)).mono hb.size)
  clear hb
  go_wp2_with fail
  refine (SPEQUAL_same A3 A4 z2.length c3 c4 z2 (by omega) _ w5.heap.size (Nat.le_refl _) ⟨hc3, hm3⟩ ⟨hc4, hm4⟩ P3 P4).mono ?_
  rintro e w6 ⟨rfl, hb⟩
  replace HB := Lib.hid (HB.out.trans (hb.mono HB.out.size))
  clear hb
  go_wp2_with fail
  refine (AWAKE_any _).mono ?_
  rintro e w7 ⟨rfl, hb⟩
  replace HB := Lib.hid (HB.out.trans (hb.mono HB.out.size))
  clear hb
  go_wp2_with fail
  go_ret
  exact ⟨rfl, HB.out⟩
end Go.Proofs.Ytnhmhjhfoonakaa
