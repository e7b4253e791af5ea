/- clock.RatioOf. -/
import Derived.Test.YtnhmhjhfoonakaaYm
import Derived.Test.YtnhmhjhfoonakaaCfr
set_option linter.unusedSimpArgs false
set_option linter.unusedVariables false
namespace Go.Proofs.Ytnhmhjhfoonakaa
open Go.RowKit Go.Dw
set_option maxRecDepth 100000 in
set_option maxHeartbeats 1000000 in
theorem RATIOOF_any (a b : Int) (h1 : -9223372036854775808 ≤ a) (h2 : a ≤ 9223372036854775807) (h3 : -9223372036854775808 ≤ b) (h4 : b ≤ 9223372036854775807) (w : World) :
    Calls Try.prog 31 #[.int .i64 a, .int .i64 b] w fun e w' => e = .returned (tup3 (ratioS a b)) ∧ Below w.heap.size w w' := by
  obtain ⟨W, gx, hW, hgx, HHW, HBW, HSW⟩ := cell_new w 36 #[.string ⟨#[]⟩, .string ⟨#[]⟩]
  have HGX := Lib.hid hgx
  have hgw := blk_lt HHW.out
  by_cases hb : b = 0
  · subst hb
    obtain ⟨hr0, hr1, hf0, hf1⟩ := two_cells HHW.out
    go_enter Try.func31, Try.ntmps31
    go_upto_region 1 with (fail)
    rw [← hW, ← hgx]
    clear hW hgx
    go_wp2_with fail
    exact end_ratio rfl rfl rfl hr0 hr1 ⟨rfl, set2_below' HBW.out (by have := HGX.out; omega)⟩
  · rw [ratioS_frac hb]
    have hbb : (b == 0) = false := by simpa using hb
    go_enter Try.func31, Try.ntmps31
    go_upto_region 1 with (fail)
    rw [← hW, ← hgx]
    clear hW hgx
    have HNB := Lib.hid hb
    clear hb
    go_wp2_with fail
    refine (QFRAC_any a b h1 h2 h3 h4 HNB.out _).mono ?_
    rintro e w1 ⟨neg, A, n, c, A', n', c', rfl, h5, k1, k2, hb1⟩
    have H5 := Lib.hid h5
    have HB1 := Lib.hid (HBW.out.trans (hb1.mono HBW.out.size))
    have hx1 := hb1.block gx hgw
    have hg1 := Nat.lt_of_lt_of_le hgw hb1.size
    clear h5 hb1
    go_wp2_with fail
    refine (RESULT_any neg A A' n c n' c' _ (by omega) (by omega) _ w1.heap.size (Nat.le_refl _) H5).mono ?_
    rintro e w2 ⟨rfl, hb2⟩
    obtain ⟨hr0, hr1, hf0, hf1⟩ := two_cells ((hb2.block gx hg1).trans (hx1.trans HHW.out))
    have HB2 := Lib.hid (HB1.out.trans (hb2.mono HB1.out.size))
    clear hb2 hx1
    obtain ⟨⟨S, T, f⟩, hV⟩ : ∃ p, resP ((a : Rat) / b) = p := ⟨_, rfl⟩
    have HV := Lib.hid hV
    rw [hV]
    clear hV
    unfold tup3
    dsimp only
    go_wp2_with fail
    exact end_ratio rfl rfl rfl hr0 hr1 ⟨by rw [HV.out]; rfl, set2_below' HB2.out (by have := HGX.out; omega)⟩
end Go.Proofs.Ytnhmhjhfoonakaa
