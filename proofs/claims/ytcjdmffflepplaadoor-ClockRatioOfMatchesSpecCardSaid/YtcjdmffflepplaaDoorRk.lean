/- The reference's RatioOf. -/
import Derived.Test.YtcjdmffflepplaaDoorRj
set_option linter.unusedSimpArgs false
set_option linter.unusedVariables false
namespace Go.Proofs.YtcjdmffflepplaaDoor
open Go.RowKit Go.Dw Go.Joins
set_option maxRecDepth 100000 in
set_option maxHeartbeats 1000000 in
/-- the reference's RatioOf -/
theorem RRATIOOF_any (a b : Int) (h1 : -9223372036854775808 ≤ a) (h2 : a ≤ 9223372036854775807) (h3 : -9223372036854775808 ≤ b) (h4 : b ≤ 9223372036854775807) (w : World) (ht : Hid (TabAt w)) :
    Calls Tryd.prog 16 #[.int .i64 a, .int .i64 b] w fun e w' => e = .returned (tup3 (if b = 0 then (noB, noB, 13) else (txN ((a : Rat) / b), txD ((a : Rat) / b), 0))) ∧ Below w.heap.size w w' := by
  obtain ⟨W, gx, hW, hgx, HHW, HBW, HSW⟩ := cell_new w 28 #[.string ⟨#[]⟩, .string ⟨#[]⟩]
  have HGX := Lib.hid hgx
  have hgw := blk_lt HHW.out
  by_cases hb : b = 0
  · subst hb
    obtain ⟨hr0, hr1, hf0, hf1⟩ := two_cells HHW.out
    go_enter Tryd.func16, Tryd.ntmps16
    go_upto_region 1 with (fail)
    rw [← hW, ← hgx]
    clear hW hgx
    go_wp2_with fail
    exact end_ratio rfl rfl rfl hr0 hr1 ⟨rfl, set2_below' HBW.out (by have := HGX.out; omega)⟩
  · rw [if_neg hb]
    have hbb : (b == 0) = false := by simpa using hb
    have HNB : Hid ((b : Rat) ≠ 0) := fun h => hb (by have := congrArg Rat.num h; simpa using this)
    have HTW := Lib.hid (ht.out.below HBW.out)
    clear hb
    go_enter Tryd.func16, Tryd.ntmps16
    go_upto_region 1 with (fail)
    rw [← hW, ← hgx]
    clear hW hgx
    go_wp2_with fail
    refine (RINT_any a h1 h2 _ HTW).mono ?_
    rintro e w1 ⟨ng1, A1, n1, c1, D1, m1, d1, rfl, h5, k1, l1, hb1⟩
    have H1 := Lib.hid h5
    have HB1 := Lib.hid hb1
    clear h5 hb1
    go_wp2_with fail
    refine (RINT_any b h3 h4 _ (Lib.hid (HTW.out.below HB1.out))).mono ?_
    rintro e w2 ⟨ng2, A2, n2, c2, D2, m2, d2, rfl, h5, k2, l2, hb2⟩
    have H2 := Lib.hid h5
    have HB2 := Lib.hid (HB1.out.trans (hb2.mono HB1.out.size))
    have H1' := Lib.hid (H1.out.to hb2 (Nat.le_refl _) hb2.size)
    clear h5 hb2
    go_wp2_with fail
    refine (ROVER_any ng1 ng2 A1 A2 D1 D2 n1 c1 m1 d1 n2 c2 m2 d2 _ _ (by omega) (by omega) (by omega) (by omega) HNB.out _ w2.heap.size (Nat.le_refl _) H1' H2).mono ?_
    rintro e w3 ⟨ng3, A3, n3, c3, D3, m3, d3, rfl, h5, k3, l3, hb3⟩
    have H3 := Lib.hid h5
    have HB3 := Lib.hid (HB2.out.trans (hb3.mono HB2.out.size))
    clear h5 hb3
    go_wp2_with fail
    refine (ROUT_any ng3 A3 D3 n3 c3 m3 d3 _ (by omega) (by omega) _ (Lib.hid (HTW.out.below HB3.out)) w3.heap.size (Nat.le_refl _) H3).mono ?_
    rintro e w4 ⟨rfl, hb4⟩
    have HB4 := Lib.hid (HB3.out.trans (hb4.mono HB3.out.size))
    obtain ⟨hr0, hr1, hf0, hf1⟩ := two_cells ((HB4.out.block gx hgw).trans HHW.out)
    obtain ⟨S, hS⟩ : ∃ S, txN ((a : Rat) / b) = S := ⟨_, rfl⟩
    obtain ⟨T, hT⟩ : ∃ S, txD ((a : Rat) / b) = S := ⟨_, rfl⟩
    have HSS := Lib.hid hS
    have HTT := Lib.hid hT
    rw [hS, hT]
    clear hb4 hS hT
    go_wp2_with fail
    exact end_ratio rfl rfl rfl hr0 hr1 ⟨by rw [HSS.out, HTT.out]; rfl, set2_below' (HBW.out.trans (HB4.out.mono HBW.out.size)) (by have := HGX.out; omega)⟩
end Go.Proofs.YtcjdmffflepplaaDoor
