/- SoundNormalHasItsPeak, walked. -/
import Derived.Test.YtnhmhjhfoonakaaNpl
import Derived.Test.YtnhmhjhfoonakaaWf
import Derived.Test.YtnhmhjhfoonakaaWb
import Derived.Test.YtnhmhjhfoonakaaWb
set_option linter.unusedSimpArgs false
set_option linter.unusedVariables false
namespace Go.Proofs.Ytnhmhjhfoonakaa
open Go.RowKit Go.Dw
set_option maxRecDepth 100000 in
set_option maxHeartbeats 4000000 in
theorem lawNp_err (r : Int) (A : Option Addr) (n c : Nat) (want : Int) (xss : List (List Int)) (hcase : (normS r xss want).flt ≠ 0 ∧ (normS r xss want).rows = []) (w : World) (hh : Hid (RowsAt w w.heap.size A n xss)) :
    Calls Try.prog 4 #[.agg #[.int .i64 r, .slice A n c], .int .i64 want] w fun e w' => e = .returned (.bool true) ∧ Below w.heap.size w w' := by
  obtain ⟨⟨zr, zx, zS, zT, zf⟩, hZ⟩ : ∃ Z, normS r xss want = Z := ⟨_, rfl⟩
  rw [hZ] at hcase
  dsimp only at hcase
  have HZ := Lib.hid hZ
  clear hZ
  obtain ⟨W, gx, hW, hgx, B0, HB⟩ := sbox_new w r A n c xss hh.out
  obtain ⟨x0, x1, _, _⟩ := sbox_cells B0.out
  obtain ⟨hf, hzx⟩ := hcase
  have d1 : (zf != 0) = true := by simpa using hf
  clear hf
  have HL0 : Hid (zx.length = 0) := by show _ = _; rw [hzx]; rfl
  clear hzx
  go_enter Try.func4, Try.ntmps4
  go_upto_region 1 with (fail)
  rw [← hW, ← hgx]
  clear hW hgx
  go_wp2_with fail
  refine (NORMAL_any r A n c want xss _ W.heap.size (Nat.le_refl _) B0.out.rows).mono ?_
  rw [HZ.out]
  rintro e w1 ⟨v1, rfl, ho1, hb⟩
  obtain ⟨A1, c1, rfl, _, _⟩ := ho1.form
  dsimp only at ho1 ⊢
  clear x0 x1
  replace HB := Lib.hid (HB.out.trans (hb.mono HB.out.size))
  clear hb B0
  go_upto_region 2 with (fail)
  obtain ⟨X1, g1, hX, hg, HBB, HBX, _⟩ := boxes2 w1 (.cells #[.int .i64 zr, .slice A1 zx.length c1] 24) (.cells #[.string zS, .string zT] 36)
  have B1 : Hid (SBox X1 g1 zr A1 zx.length c1 zx) := ⟨HBB.out.1, (ho1.rows.below HBX.out (Nat.le_refl _)).mono HBX.out.size⟩
  obtain ⟨t1, ht⟩ : ∃ t, t = g1 + 1 := ⟨_, rfl⟩
  have T1 : Hid (TBox X1 t1 zS zT) := by rw [ht]; exact HBB.out.2
  rw [← hX, ← hg, ← ht]
  replace HB := Lib.hid (HB.out.trans (HBX.out.mono HB.out.size))
  clear hX hg ht HBX HBB ho1
  obtain ⟨p0, p1, _, _⟩ := sbox_cells B1.out
  have hl0 := HL0.out
  go_wp2_with fail
  refine (AWAKE_any _).mono ?_
  rintro e w4 ⟨rfl, hb⟩
  replace HB := Lib.hid (HB.out.trans (hb.mono HB.out.size))
  clear hb
  go_wp2_with fail
  go_ret
  exact ⟨rfl, HB.out⟩
set_option maxRecDepth 100000 in
set_option maxHeartbeats 4000000 in
theorem lawNp_ok (r : Int) (A : Option Addr) (n c : Nat) (want : Int) (xss : List (List Int)) (hcase : (normS r xss want).flt = 0 ∧ peakS (normS r xss want).rate (normS r xss want).rows = (want, 0) ∧ normS (normS r xss want).rate (normS r xss want).rows want = ⟨(normS r xss want).rate, (normS r xss want).rows, ⟨#[49]⟩, ⟨#[49]⟩, 0⟩) (w : World) (hh : Hid (RowsAt w w.heap.size A n xss)) :
    Calls Try.prog 4 #[.agg #[.int .i64 r, .slice A n c], .int .i64 want] w fun e w' => e = .returned (.bool true) ∧ Below w.heap.size w w' := by
  obtain ⟨⟨zr, zx, zS, zT, zf⟩, hZ⟩ : ∃ Z, normS r xss want = Z := ⟨_, rfl⟩
  rw [hZ] at hcase
  dsimp only at hcase
  have HZ := Lib.hid hZ
  clear hZ
  obtain ⟨W, gx, hW, hgx, B0, HB⟩ := sbox_new w r A n c xss hh.out
  obtain ⟨x0, x1, _, _⟩ := sbox_cells B0.out
  obtain ⟨rfl, hp, hn2⟩ := hcase
  have HP := Lib.hid hp
  have HN2 := Lib.hid hn2
  clear hp hn2
  have hst : sameS zr zx zr zx = true := by simp [sameS]
  go_enter Try.func4, Try.ntmps4
  go_upto_region 1 with (fail)
  rw [← hW, ← hgx]
  clear hW hgx
  go_wp2_with fail
  refine (NORMAL_any r A n c want xss _ W.heap.size (Nat.le_refl _) B0.out.rows).mono ?_
  rw [HZ.out]
  rintro e w1 ⟨v1, rfl, ho1, hb⟩
  obtain ⟨A1, c1, rfl, _, _⟩ := ho1.form
  dsimp only at ho1 ⊢
  clear x0 x1
  replace HB := Lib.hid (HB.out.trans (hb.mono HB.out.size))
  clear hb B0
  go_upto_region 2 with (fail)
  obtain ⟨X1, g1, hX, hg, HBB, HBX, _⟩ := boxes2 w1 (.cells #[.int .i64 zr, .slice A1 zx.length c1] 24) (.cells #[.string zS, .string zT] 36)
  have B1 : Hid (SBox X1 g1 zr A1 zx.length c1 zx) := ⟨HBB.out.1, (ho1.rows.below HBX.out (Nat.le_refl _)).mono HBX.out.size⟩
  obtain ⟨t1, ht⟩ : ∃ t, t = g1 + 1 := ⟨_, rfl⟩
  have T1 : Hid (TBox X1 t1 zS zT) := by rw [ht]; exact HBB.out.2
  rw [← hX, ← hg, ← ht]
  replace HB := Lib.hid (HB.out.trans (HBX.out.mono HB.out.size))
  clear hX hg ht HBX HBB ho1
  obtain ⟨p0, p1, _, _⟩ := sbox_cells B1.out
  go_wp2_with fail
  refine (PEAK_any zr A1 zx.length c1 zx _ X1.heap.size (Nat.le_refl _) B1.out.rows).mono ?_
  rintro e w2 ⟨rfl, hb⟩
  rw [HP.out]
  dsimp only
  clear p0 p1
  replace B1 := Lib.hid (B1.out.below hb)
  replace HB := Lib.hid (HB.out.trans (hb.mono HB.out.size))
  clear hb
  obtain ⟨p0, p1, _, _⟩ := sbox_cells B1.out
  go_wp2_with fail
  refine (NORMAL_any zr A1 zx.length c1 want zx _ w2.heap.size (Nat.le_refl _) B1.out.rows).mono ?_
  rw [HN2.out]
  rintro e w3 ⟨v3, rfl, ho2, hb⟩
  dsimp only at ho2 ⊢
  obtain ⟨A2, c2, rfl, _, _⟩ := ho2.form
  clear p0 p1 T1
  replace B1 := Lib.hid (B1.out.below hb)
  replace HB := Lib.hid (HB.out.trans (hb.mono HB.out.size))
  clear hb
  obtain ⟨yS, hyS⟩ : ∃ s, zS = s := ⟨_, rfl⟩
  obtain ⟨zS, hzS⟩ : ∃ s : ByteArray, s = ⟨#[49]⟩ := ⟨_, rfl⟩
  obtain ⟨zT, hzT⟩ : ∃ s : ByteArray, s = ⟨#[49]⟩ := ⟨_, rfl⟩
  go_upto_region 6 with (fail)
  obtain ⟨X2, g2, hX, hg, HBB, HBX, _⟩ := boxes2 w3 (.cells #[.int .i64 zr, .slice A2 zx.length c2] 24) (.cells #[.string ⟨#[49]⟩, .string ⟨#[49]⟩] 36)
  have B2 : Hid (SBox X2 g2 zr A2 zx.length c2 zx) := ⟨HBB.out.1, (ho2.rows.below HBX.out (Nat.le_refl _)).mono HBX.out.size⟩
  obtain ⟨t2, ht⟩ : ∃ t, t = g2 + 1 := ⟨_, rfl⟩
  have T2 : Hid (TBox X2 t2 ⟨#[49]⟩ ⟨#[49]⟩) := by rw [ht]; exact HBB.out.2
  rw [← hX, ← hg, ← ht]
  replace B1 := Lib.hid (B1.out.below HBX.out)
  replace HB := Lib.hid (HB.out.trans (HBX.out.mono HB.out.size))
  clear hX hg ht HBX HBB ho2 hyS hzS hzT
  obtain ⟨p0, p1, _, _⟩ := sbox_cells B1.out
  obtain ⟨q0, q1, _, _⟩ := sbox_cells B2.out
  have hww : (want == want) = true := by simp
  go_wp2_with fail
  refine (SAME_any _ _ _ _ _ _ _ _ zx zx _ X2.heap.size (Nat.le_refl _) B1.out.rows B2.out.rows).mono ?_
  rintro e w4 ⟨rfl, hb⟩
  rw [hst]
  replace T2 := Lib.hid (T2.out.below hb)
  replace HB := Lib.hid (HB.out.trans (hb.mono HB.out.size))
  clear hb p0 p1 q0 q1
  obtain ⟨q0, q1, _, _⟩ := two_cells T2.out
  go_wp2_with fail
  refine (AWAKE_any _).mono ?_
  rintro e w5 ⟨rfl, hb⟩
  replace HB := Lib.hid (HB.out.trans (hb.mono HB.out.size))
  clear hb
  go_wp2_with fail
  go_ret
  exact ⟨rfl, HB.out⟩
theorem lawNp_walk (r : Int) (A : Option Addr) (n c : Nat) (want : Int) (xss : List (List Int)) (w : World) (hh : Hid (RowsAt w w.heap.size A n xss)) :
    Calls Try.prog 4 #[.agg #[.int .i64 r, .slice A n c], .int .i64 want] w fun e w' => e = .returned (.bool true) ∧ Below w.heap.size w w' := by
  rcases norm_twice r xss want with h | h
  · exact lawNp_err r A n c want xss h w hh
  · exact lawNp_ok r A n c want xss h w hh
end Go.Proofs.Ytnhmhjhfoonakaa
