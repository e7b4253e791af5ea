/- Normal, the document's. -/
import Derived.Test.YtnhmhjhfoonakaaGreatDoorNoa
import Derived.Test.YtnhmhjhfoonakaaGreatDoorGar
import Derived.Test.YtnhmhjhfoonakaaGreatDoorRPeak
import Derived.Test.YtnhmhjhfoonakaaGreatDoorWf
set_option linter.unusedSimpArgs false
set_option linter.unusedVariables false
namespace Go.Proofs.YtnhmhjhfoonakaaGreatDoor
open Go.RowKit Go.Dw
attribute [local go_sem ↓] Go.wp_at_zero Go.wp_at_succ
set_option maxHeartbeats 800000 in
theorem RNORMAL_chk (r : Int) (A : Option Addr) (n c : Nat) (want : Int) (xss : List (List Int)) (hc : chkS r xss ≠ 0) (w : World) (B : Nat) (hB : B ≤ w.heap.size) (hh : Hid (RowsAt w B A n xss)) :
    Calls Tryz.prog 13 #[.agg #[.int .i64 r, .slice A n c], .int .i64 want] w (OutNo w ⟨0, [], noB, noB, chkS r xss⟩) := by
  have hq : (chkS r xss != 0) = true := by simpa using hc
  have HPKS : Hid (peakS r xss = (0, chkS r xss)) := if_pos hc
  clear hc
  obtain ⟨W, gx, hW, hgx, HHW, HBX, HSW⟩ := boxes3 w (.cells #[.int .i64 r, .slice (A) n c] 24) (.cells #[.int .i64 0, .slice none 0 0] 24) (.cells #[.string ⟨#[]⟩, .string ⟨#[]⟩] 26)
  have HGX := Lib.hid hgx
  obtain ⟨g2, hg2⟩ : ∃ g, g = gx + 1 := ⟨_, rfl⟩
  obtain ⟨g3, hg3⟩ : ∃ g, g = gx + 1 + 1 := ⟨_, rfl⟩
  have HX : Hid (W.heap[gx]? = some (.cells #[.int .i64 r, .slice (A) n c] 24 (0, 0))) := HHW.out.1
  have HHR : Hid (W.heap[g2]? = some (.cells #[.int .i64 0, .slice none 0 0] 24 (0, 0))) := by rw [hg2]; exact HHW.out.2.1
  have HRR : Hid (W.heap[g3]? = some (.cells #[.string ⟨#[]⟩, .string ⟨#[]⟩] 26 (0, 0))) := by rw [hg3]; exact HHW.out.2.2
  have HG2 : Hid (w.heap.size ≤ g2 ∧ w.heap.size ≤ g3) := ⟨by have := hgx; omega, by have := hgx; omega⟩
  have hne1 : ¬ g2 = g3 := by omega
  have hne2 : ¬ g3 = g2 := by omega
  go_enter Tryz.func13, Tryz.ntmps13
  go_upto_region 1 with (fail)
  rw [← hW, ← hgx, ← hg3, ← hg2]
  clear hW hgx hg2 hg3 HHW HSW
  obtain ⟨x0, x1, _, _⟩ := two_cells HX.out
  go_wp2_with fail
  refine (RPEAK_any r (A) n c xss _ B (Nat.le_trans hB HBX.out.size) (hh.out.below HBX.out hB)).mono ?_
  rintro e w1 ⟨rfl, hb⟩
  rw [HPKS.out]
  replace HX := Lib.hid ((hb.block gx (blk_lt HX.out)).trans HX.out)
  replace HHR := Lib.hid ((hb.block g2 (blk_lt HHR.out)).trans HHR.out)
  replace HRR := Lib.hid ((hb.block g3 (blk_lt HRR.out)).trans HRR.out)
  replace HBX := Lib.hid (HBX.out.trans (hb.mono HBX.out.size))
  clear hb x0 x1
  obtain ⟨hr0, hr1, hf0, hf1⟩ := two_cells HHR.out
  obtain ⟨hs0, hs1, hk0, hk1⟩ := two_cells HRR.out
  have hl2 := blk_lt HHR.out
  have hl3 := blk_lt HRR.out
  go_wp2_with fail
  (try go_region)
  (try go_wp2_with fail)
  exact fin_norm rfl rfl rfl rfl (norm_set HHR.out HRR.out hne1).1 (norm_set HHR.out HRR.out hne1).2 ⟨_, rfl, OwnRows.nil _ _, set2_below' (set2_below' HBX.out HG2.out.1) HG2.out.2⟩
set_option maxHeartbeats 800000 in
theorem RNORMAL_bad (r : Int) (A : Option Addr) (n c : Nat) (want : Int) (xss : List (List Int)) (hc : Hid (chkS r xss = 0)) (hb0 : want < 1 ∨ 8388607 < want) (w : World) (B : Nat) (hB : B ≤ w.heap.size) (hh : Hid (RowsAt w B A n xss)) :
    Calls Tryz.prog 13 #[.agg #[.int .i64 r, .slice A n c], .int .i64 want] w (OutNo w ⟨0, [], noB, noB, 1⟩) := by
  obtain ⟨pk, hpk⟩ : ∃ pk, pkS 0 xss = pk := ⟨_, rfl⟩
  have HPKS : Hid (peakS r xss = (pk, 0)) := by show _ = _; rw [← hpk]; exact if_neg (by simp [hc.out])
  clear hpk
  by_cases h1 : want < 1
  · have d1 : decide (want < 1) = true := by simpa using h1
    clear h1 hb0
    obtain ⟨W, gx, hW, hgx, HHW, HBX, HSW⟩ := boxes3 w (.cells #[.int .i64 r, .slice (A) n c] 24) (.cells #[.int .i64 0, .slice none 0 0] 24) (.cells #[.string ⟨#[]⟩, .string ⟨#[]⟩] 26)
    have HGX := Lib.hid hgx
    obtain ⟨g2, hg2⟩ : ∃ g, g = gx + 1 := ⟨_, rfl⟩
    obtain ⟨g3, hg3⟩ : ∃ g, g = gx + 1 + 1 := ⟨_, rfl⟩
    have HX : Hid (W.heap[gx]? = some (.cells #[.int .i64 r, .slice (A) n c] 24 (0, 0))) := HHW.out.1
    have HHR : Hid (W.heap[g2]? = some (.cells #[.int .i64 0, .slice none 0 0] 24 (0, 0))) := by rw [hg2]; exact HHW.out.2.1
    have HRR : Hid (W.heap[g3]? = some (.cells #[.string ⟨#[]⟩, .string ⟨#[]⟩] 26 (0, 0))) := by rw [hg3]; exact HHW.out.2.2
    have HG2 : Hid (w.heap.size ≤ g2 ∧ w.heap.size ≤ g3) := ⟨by have := hgx; omega, by have := hgx; omega⟩
    have hne1 : ¬ g2 = g3 := by omega
    have hne2 : ¬ g3 = g2 := by omega
    go_enter Tryz.func13, Tryz.ntmps13
    go_upto_region 1 with (fail)
    rw [← hW, ← hgx, ← hg3, ← hg2]
    clear hW hgx hg2 hg3 HHW HSW
    obtain ⟨x0, x1, _, _⟩ := two_cells HX.out
    go_wp2_with fail
    refine (RPEAK_any r (A) n c xss _ B (Nat.le_trans hB HBX.out.size) (hh.out.below HBX.out hB)).mono ?_
    rintro e w1 ⟨rfl, hb⟩
    rw [HPKS.out]
    replace HX := Lib.hid ((hb.block gx (blk_lt HX.out)).trans HX.out)
    replace HHR := Lib.hid ((hb.block g2 (blk_lt HHR.out)).trans HHR.out)
    replace HRR := Lib.hid ((hb.block g3 (blk_lt HRR.out)).trans HRR.out)
    replace HBX := Lib.hid (HBX.out.trans (hb.mono HBX.out.size))
    clear hb x0 x1
    obtain ⟨hr0, hr1, hf0, hf1⟩ := two_cells HHR.out
    obtain ⟨hs0, hs1, hk0, hk1⟩ := two_cells HRR.out
    have hl2 := blk_lt HHR.out
    have hl3 := blk_lt HRR.out
    go_wp2_with fail
    (try go_region)
    (try go_wp2_with fail)
    exact fin_norm rfl rfl rfl rfl (norm_set HHR.out HRR.out hne1).1 (norm_set HHR.out HRR.out hne1).2 ⟨_, rfl, OwnRows.nil _ _, set2_below' (set2_below' HBX.out HG2.out.1) HG2.out.2⟩
  · have d1 : decide (want < 1) = false := by simpa using h1
    have d2 : decide (8388607 < want) = true := by simp; omega
    clear h1 hb0
    obtain ⟨W, gx, hW, hgx, HHW, HBX, HSW⟩ := boxes3 w (.cells #[.int .i64 r, .slice (A) n c] 24) (.cells #[.int .i64 0, .slice none 0 0] 24) (.cells #[.string ⟨#[]⟩, .string ⟨#[]⟩] 26)
    have HGX := Lib.hid hgx
    obtain ⟨g2, hg2⟩ : ∃ g, g = gx + 1 := ⟨_, rfl⟩
    obtain ⟨g3, hg3⟩ : ∃ g, g = gx + 1 + 1 := ⟨_, rfl⟩
    have HX : Hid (W.heap[gx]? = some (.cells #[.int .i64 r, .slice (A) n c] 24 (0, 0))) := HHW.out.1
    have HHR : Hid (W.heap[g2]? = some (.cells #[.int .i64 0, .slice none 0 0] 24 (0, 0))) := by rw [hg2]; exact HHW.out.2.1
    have HRR : Hid (W.heap[g3]? = some (.cells #[.string ⟨#[]⟩, .string ⟨#[]⟩] 26 (0, 0))) := by rw [hg3]; exact HHW.out.2.2
    have HG2 : Hid (w.heap.size ≤ g2 ∧ w.heap.size ≤ g3) := ⟨by have := hgx; omega, by have := hgx; omega⟩
    have hne1 : ¬ g2 = g3 := by omega
    have hne2 : ¬ g3 = g2 := by omega
    go_enter Tryz.func13, Tryz.ntmps13
    go_upto_region 1 with (fail)
    rw [← hW, ← hgx, ← hg3, ← hg2]
    clear hW hgx hg2 hg3 HHW HSW
    obtain ⟨x0, x1, _, _⟩ := two_cells HX.out
    go_wp2_with fail
    refine (RPEAK_any r (A) n c xss _ B (Nat.le_trans hB HBX.out.size) (hh.out.below HBX.out hB)).mono ?_
    rintro e w1 ⟨rfl, hb⟩
    rw [HPKS.out]
    replace HX := Lib.hid ((hb.block gx (blk_lt HX.out)).trans HX.out)
    replace HHR := Lib.hid ((hb.block g2 (blk_lt HHR.out)).trans HHR.out)
    replace HRR := Lib.hid ((hb.block g3 (blk_lt HRR.out)).trans HRR.out)
    replace HBX := Lib.hid (HBX.out.trans (hb.mono HBX.out.size))
    clear hb x0 x1
    obtain ⟨hr0, hr1, hf0, hf1⟩ := two_cells HHR.out
    obtain ⟨hs0, hs1, hk0, hk1⟩ := two_cells HRR.out
    have hl2 := blk_lt HHR.out
    have hl3 := blk_lt HRR.out
    go_wp2_with fail
    (try go_region)
    (try go_wp2_with fail)
    exact fin_norm rfl rfl rfl rfl (norm_set HHR.out HRR.out hne1).1 (norm_set HHR.out HRR.out hne1).2 ⟨_, rfl, OwnRows.nil _ _, set2_below' (set2_below' HBX.out HG2.out.1) HG2.out.2⟩
set_option maxHeartbeats 1600000 in
theorem RNORMAL_nil (r : Int) (ad : Addr) (n c : Nat) (want : Int) (xss : List (List Int)) (hn : 0 < n) (hc : Hid (chkS r xss = 0)) (hok : Hid (OkS r xss)) (hw1 : 1 ≤ want) (hw2 : want ≤ 8388607) (hp : pkS 0 xss = 0) (w : World) (B : Nat) (hB : B ≤ w.heap.size) (hh : Hid (RowsAt w B (some ad) n xss)) :
    Calls Tryz.prog 13 #[.agg #[.int .i64 r, .slice (some ad) n c], .int .i64 want] w (OutNo w ⟨0, [], noB, noB, 13⟩) := by
  have HPKS : Hid (peakS r xss = (0, 0)) := by have h9 : peakS r xss = (pkS 0 xss, 0) := if_neg (by simp [hc.out]); rw [hp] at h9; exact h9
  have d1 : decide (want < 1) = false := by simp; omega
  have d2 : decide (8388607 < want) = false := by simp; omega
  clear hp
  obtain ⟨W, gx, hW, hgx, HHW, HBX, HSW⟩ := boxes3 w (.cells #[.int .i64 r, .slice (some ad) n c] 24) (.cells #[.int .i64 0, .slice none 0 0] 24) (.cells #[.string ⟨#[]⟩, .string ⟨#[]⟩] 26)
  have HGX := Lib.hid hgx
  obtain ⟨g2, hg2⟩ : ∃ g, g = gx + 1 := ⟨_, rfl⟩
  obtain ⟨g3, hg3⟩ : ∃ g, g = gx + 1 + 1 := ⟨_, rfl⟩
  have HX : Hid (W.heap[gx]? = some (.cells #[.int .i64 r, .slice (some ad) n c] 24 (0, 0))) := HHW.out.1
  have HHR : Hid (W.heap[g2]? = some (.cells #[.int .i64 0, .slice none 0 0] 24 (0, 0))) := by rw [hg2]; exact HHW.out.2.1
  have HRR : Hid (W.heap[g3]? = some (.cells #[.string ⟨#[]⟩, .string ⟨#[]⟩] 26 (0, 0))) := by rw [hg3]; exact HHW.out.2.2
  have HG2 : Hid (w.heap.size ≤ g2 ∧ w.heap.size ≤ g3) := ⟨by have := hgx; omega, by have := hgx; omega⟩
  have hne1 : ¬ g2 = g3 := by omega
  have hne2 : ¬ g3 = g2 := by omega
  go_enter Tryz.func13, Tryz.ntmps13
  go_upto_region 1 with (fail)
  rw [← hW, ← hgx, ← hg3, ← hg2]
  clear hW hgx hg2 hg3 HHW HSW
  obtain ⟨x0, x1, _, _⟩ := two_cells HX.out
  go_wp2_with fail
  refine (RPEAK_any r (some ad) n c xss _ B (Nat.le_trans hB HBX.out.size) (hh.out.below HBX.out hB)).mono ?_
  rintro e w1 ⟨rfl, hb⟩
  rw [HPKS.out]
  replace HX := Lib.hid ((hb.block gx (blk_lt HX.out)).trans HX.out)
  replace HHR := Lib.hid ((hb.block g2 (blk_lt HHR.out)).trans HHR.out)
  replace HRR := Lib.hid ((hb.block g3 (blk_lt HRR.out)).trans HRR.out)
  replace HBX := Lib.hid (HBX.out.trans (hb.mono HBX.out.size))
  clear hb x0 x1
  obtain ⟨hr0, hr1, hf0, hf1⟩ := two_cells HHR.out
  obtain ⟨hs0, hs1, hk0, hk1⟩ := two_cells HRR.out
  have hl2 := blk_lt HHR.out
  have hl3 := blk_lt HRR.out
  go_wp2_with fail
  (try go_region)
  (try go_wp2_with fail)
  exact fin_norm rfl rfl rfl rfl (norm_set HHR.out HRR.out hne1).1 (norm_set HHR.out HRR.out hne1).2 ⟨_, rfl, OwnRows.nil _ _, set2_below' (set2_below' HBX.out HG2.out.1) HG2.out.2⟩
set_option maxRecDepth 100000 in
set_option maxHeartbeats 4000000 in
theorem RNORMAL_ok (r : Int) (ad : Addr) (n c : Nat) (want : Int) (xss : List (List Int)) (hn : 0 < n) (hc : Hid (chkS r xss = 0)) (hok : Hid (OkS r xss)) (hw1 : 1 ≤ want) (hw2 : want ≤ 8388607) (hp : pkS 0 xss ≠ 0) (w : World) (htab : Hid (TabAt w)) (B : Nat) (hB : B ≤ w.heap.size) (hh : Hid (RowsAt w B (some ad) n xss)) :
    Calls Tryz.prog 13 #[.agg #[.int .i64 r, .slice (some ad) n c], .int .i64 want] w (OutNo w ⟨r, xss.map (List.map (gnV ((want : Rat) / pkS 0 xss))), txN ((want : Rat) / pkS 0 xss), txD ((want : Rat) / pkS 0 xss), 0⟩) := by
  have hpb := pkS_bd (xss := xss) (m := 0) (by omega) (by omega) hok.out.smp
  obtain ⟨pk, hpk⟩ : ∃ pk, pkS 0 xss = pk := ⟨_, rfl⟩
  have HPKS : Hid (peakS r xss = (pk, 0)) := by show _ = _; rw [← hpk]; exact if_neg (by simp [hc.out])
  rw [hpk] at hp hpb ⊢
  clear hpk
  obtain ⟨p1, p2⟩ := hpb
  have hp0 : (pk == 0) = false := by simpa using hp
  have HNB : Hid ((pk : Rat) ≠ 0) := fun h => hp (by have := congrArg Rat.num h; simpa using this)
  obtain ⟨q, hq9⟩ : ∃ q, (want : Rat) / pk = q := ⟨_, rfl⟩
  have hfew : fewT q 2000 = true := by rw [← hq9]; exact frac_few want pk (by omega) (by omega) (by omega) (by omega) hp
  have HQQ := Lib.hid hq9
  rw [hq9]
  clear hq9
  have HRT0 := Rt.tx hfew
  obtain ⟨S, hS⟩ : ∃ S, txN q = S := ⟨_, rfl⟩
  obtain ⟨T, hT⟩ : ∃ T, txD q = T := ⟨_, rfl⟩
  have HQ9 := Lib.hid (And.intro hS hT)
  rw [hS, hT] at HRT0
  have HRT := Lib.hid HRT0
  have d1 : decide (want < 1) = false := by simp; omega
  have d2 : decide (8388607 < want) = false := by simp; omega
  clear hS hT hfew HRT0
  obtain ⟨W, gx, hW, hgx, HHW, HBX, HSW⟩ := boxes3 w (.cells #[.int .i64 r, .slice (some ad) n c] 24) (.cells #[.int .i64 0, .slice none 0 0] 24) (.cells #[.string ⟨#[]⟩, .string ⟨#[]⟩] 26)
  have HGX := Lib.hid hgx
  obtain ⟨g2, hg2⟩ : ∃ g, g = gx + 1 := ⟨_, rfl⟩
  obtain ⟨g3, hg3⟩ : ∃ g, g = gx + 1 + 1 := ⟨_, rfl⟩
  have HX : Hid (W.heap[gx]? = some (.cells #[.int .i64 r, .slice (some ad) n c] 24 (0, 0))) := HHW.out.1
  have HHR : Hid (W.heap[g2]? = some (.cells #[.int .i64 0, .slice none 0 0] 24 (0, 0))) := by rw [hg2]; exact HHW.out.2.1
  have HRR : Hid (W.heap[g3]? = some (.cells #[.string ⟨#[]⟩, .string ⟨#[]⟩] 26 (0, 0))) := by rw [hg3]; exact HHW.out.2.2
  have HG2 : Hid (w.heap.size ≤ g2 ∧ w.heap.size ≤ g3) := ⟨by have := hgx; omega, by have := hgx; omega⟩
  have hne1 : ¬ g2 = g3 := by omega
  have hne2 : ¬ g3 = g2 := by omega
  go_enter Tryz.func13, Tryz.ntmps13
  go_upto_region 1 with (fail)
  rw [← hW, ← hgx, ← hg3, ← hg2]
  clear hW hgx hg2 hg3 HHW HSW
  obtain ⟨x0, x1, _, _⟩ := two_cells HX.out
  go_wp2_with fail
  refine (RPEAK_any r (some ad) n c xss _ B (Nat.le_trans hB HBX.out.size) (hh.out.below HBX.out hB)).mono ?_
  rintro e w1 ⟨rfl, hb⟩
  rw [HPKS.out]
  dsimp only
  replace HX := Lib.hid ((hb.block gx (blk_lt HX.out)).trans HX.out)
  replace HHR := Lib.hid ((hb.block g2 (blk_lt HHR.out)).trans HHR.out)
  replace HRR := Lib.hid ((hb.block g3 (blk_lt HRR.out)).trans HRR.out)
  replace HBX := Lib.hid (HBX.out.trans (hb.mono HBX.out.size))
  clear hb x0 x1
  go_wp2_with fail
  refine (RINT_any want (by omega) (by omega) _ (Lib.hid (htab.out.below HBX.out))).mono ?_
  rintro e w2 ⟨ng1, A1, n1, c1, D1, m1, e1, rfl, h1, k1, l1, hb⟩
  have H1 := Lib.hid h1
  replace HX := Lib.hid ((hb.block gx (blk_lt HX.out)).trans HX.out)
  replace HHR := Lib.hid ((hb.block g2 (blk_lt HHR.out)).trans HHR.out)
  replace HRR := Lib.hid ((hb.block g3 (blk_lt HRR.out)).trans HRR.out)
  replace HBX := Lib.hid (HBX.out.trans (hb.mono HBX.out.size))
  clear h1 hb
  go_wp2_with fail
  refine (RINT_any pk (by omega) (by omega) _ (Lib.hid (htab.out.below HBX.out))).mono ?_
  rintro e w3 ⟨ng2, A2, n2, c2, D2, m2, e2, rfl, h2, k2, l2, hb⟩
  have H2 := Lib.hid h2
  have H1' := Lib.hid (H1.out.to hb (Nat.le_refl _) hb.size)
  replace HX := Lib.hid ((hb.block gx (blk_lt HX.out)).trans HX.out)
  replace HHR := Lib.hid ((hb.block g2 (blk_lt HHR.out)).trans HHR.out)
  replace HRR := Lib.hid ((hb.block g3 (blk_lt HRR.out)).trans HRR.out)
  replace HBX := Lib.hid (HBX.out.trans (hb.mono HBX.out.size))
  clear h2 hb H1
  go_wp2_with fail
  refine (ROVER_any ng1 ng2 A1 A2 D1 D2 n1 c1 m1 e1 n2 c2 m2 e2 _ _ (by omega) (by omega) (by omega) (by omega) HNB.out _ w3.heap.size (Nat.le_refl _) H1' H2).mono ?_
  rintro e w4 ⟨ng3, A3, n3, c3, D3, m3, e3, rfl, h3, k3, l3, hb⟩
  rw [HQQ.out] at h3
  have H3 := Lib.hid h3
  replace HX := Lib.hid ((hb.block gx (blk_lt HX.out)).trans HX.out)
  replace HHR := Lib.hid ((hb.block g2 (blk_lt HHR.out)).trans HHR.out)
  replace HRR := Lib.hid ((hb.block g3 (blk_lt HRR.out)).trans HRR.out)
  replace HBX := Lib.hid (HBX.out.trans (hb.mono HBX.out.size))
  clear h3 hb H1' H2
  go_wp2_with fail
  refine (ROUT_any ng3 A3 D3 n3 c3 m3 e3 _ (by omega) (by omega) _ (Lib.hid (htab.out.below HBX.out)) w4.heap.size (Nat.le_refl _) H3).mono ?_
  rintro e w5 ⟨rfl, hb⟩
  rw [HQ9.out.1, HQ9.out.2]
  replace HX := Lib.hid ((hb.block gx (blk_lt HX.out)).trans HX.out)
  replace HHR := Lib.hid ((hb.block g2 (blk_lt HHR.out)).trans HHR.out)
  replace HRR := Lib.hid ((hb.block g3 (blk_lt HRR.out)).trans HRR.out)
  replace HBX := Lib.hid (HBX.out.trans (hb.mono HBX.out.size))
  clear hb H3
  go_upto_region 9 with (fail)
  obtain ⟨W, g9, hX, hg, HT9, hb9, _⟩ := cell_new w5 26 #[.string S, .string T]
  rw [← hX, ← hg]
  replace HT9 : Hid (TBox W g9 S T) := HT9
  have hb := hb9.out
  have HG9 : Hid (g9 ≠ g2 ∧ g9 ≠ g3) := ⟨by have := blk_lt HHR.out; omega, by have := blk_lt HRR.out; omega⟩
  replace HX := Lib.hid ((hb.block gx (blk_lt HX.out)).trans HX.out)
  replace HHR := Lib.hid ((hb.block g2 (blk_lt HHR.out)).trans HHR.out)
  replace HRR := Lib.hid ((hb.block g3 (blk_lt HRR.out)).trans HRR.out)
  replace HBX := Lib.hid (HBX.out.trans (hb.mono HBX.out.size))
  clear hX hg hb9 hb
  obtain ⟨x0, x1, _, _⟩ := two_cells HX.out
  obtain ⟨y0, y1, _, _⟩ := two_cells HT9.out
  go_wp2_with fail
  refine (RGAIN_ok r ad n c S T q HRT.out xss hok hc _ (Lib.hid (htab.out.below HBX.out)) B (Nat.le_trans hB HBX.out.size) (hh.out.below HBX.out hB)).mono ?_
  rintro e w6 ⟨v6, rfl, ho6, hb⟩
  obtain ⟨A6, c6, rfl, _, _⟩ := ho6.form
  have ho6' := ho6
  have hWw := HBX.out.size
  have hg2W := blk_lt HHR.out
  have hg3W := blk_lt HRR.out
  replace HX := Lib.hid ((hb.block gx (blk_lt HX.out)).trans HX.out)
  replace HHR := Lib.hid ((hb.block g2 (blk_lt HHR.out)).trans HHR.out)
  replace HRR := Lib.hid ((hb.block g3 (blk_lt HRR.out)).trans HRR.out)
  replace HBX := Lib.hid (HBX.out.trans (hb.mono HBX.out.size))
  replace HT9 := Lib.hid (HT9.out.below hb)
  clear x0 x1 y0 y1 ho6 hb
  go_upto_region 10 with (fail)
  obtain ⟨X, ga, hX, hg, HA, hb9, _⟩ := cell_new w6 24 #[.int .i64 r, .slice A6 (xss.map (List.map (gnV q))).length c6]
  have hgX : w.heap.size ≤ ga := by rw [hg]; exact HBX.out.size
  have hlt2 := blk_lt HHR.out
  have hlt3 := blk_lt HRR.out
  have hlt9 := blk_lt HT9.out
  have hna2 : ¬ ga = g2 := by omega
  have hna3 : ¬ ga = g3 := by omega
  have hna9 : ¬ g9 = g2 := HG9.out.1
  have hna9' : ¬ g9 = g3 := HG9.out.2
  have hb := hb9.out
  have HO := Lib.hid (ho6'.below hb)
  have e9 : (xss.map (List.map (gnV q))).length = xss.length := by simp
  rw [e9] at HA HO hX
  rw [← hX, ← hg]
  replace HT9 := Lib.hid (HT9.out.below hb)
  replace HX := Lib.hid ((hb.block gx (blk_lt HX.out)).trans HX.out)
  replace HHR := Lib.hid ((hb.block g2 (blk_lt HHR.out)).trans HHR.out)
  replace HRR := Lib.hid ((hb.block g3 (blk_lt HRR.out)).trans HRR.out)
  replace HBX := Lib.hid (HBX.out.trans (hb.mono HBX.out.size))
  clear hX hg hb9 hb ho6'
  obtain ⟨hr0, hr1, hf0, hf1⟩ := two_cells HHR.out
  obtain ⟨hs0, hs1, hk0, hk1⟩ := two_cells HRR.out
  obtain ⟨ht0, ht1, _, _⟩ := two_cells HT9.out
  obtain ⟨ha0, ha1, _, _⟩ := two_cells HA.out
  have hl2 := blk_lt HHR.out
  have hl3 := blk_lt HRR.out
  have hl9 := blk_lt HT9.out
  have hla := blk_lt HA.out
  go_wp2_with fail
  go_region
  go_wp2_with fail
  have hg29 := HG2.out
  obtain ⟨rows, hL⟩ := HO.out
  have hbx := HBX.out.size
  refine fin_norm_drew rfl rfl rfl rfl (norm_set HHR.out HRR.out hne1).1 (norm_set HHR.out HRR.out hne1).2 ⟨_, by rw [HQ9.out.1, HQ9.out.2]; rfl, ?_, (set2_below' (set2_below' HBX.out hg29.1) hg29.2).drew⟩
  exact ⟨rows, (((((hL.set_below (p := ⟨g2, 0, none⟩) hg2W _).set_below (p := ⟨g2, 1, none⟩) hg2W _).set_below (p := ⟨g3, 0, none⟩) hg3W _).set_below (p := ⟨g3, 1, none⟩) hg3W _).drew).base hWw⟩
theorem RNORMAL_any (r : Int) (A : Option Addr) (n c : Nat) (want : Int) (xss : List (List Int)) (w : World) (htab : Hid (TabAt w)) (B : Nat) (hB : B ≤ w.heap.size) (hh : RowsAt w B A n xss) :
    Calls Tryz.prog 13 #[.agg #[.int .i64 r, .slice A n c], .int .i64 want] w (OutNo w (normS r xss want)) := by
  unfold normS
  by_cases hc : chkS r xss = 0
  · have hok := chkS_ok hc
    have hn : 0 < n := by have := hok.some; have := hh.1; omega
    obtain ⟨ad, rfl⟩ := hh.addr hn
    rw [if_neg (by simp [hc])]
    by_cases hd : want < 1 ∨ 8388607 < want
    · rw [if_pos hd]; exact RNORMAL_bad r (some ad) n c want xss hc hd w B hB hh
    · rw [if_neg hd]
      by_cases hp : pkS 0 xss = 0
      · rw [if_pos hp]; exact RNORMAL_nil r ad n c want xss hn hc hok (by omega) (by omega) hp w B hB hh
      · rw [if_neg hp]; exact RNORMAL_ok r ad n c want xss hn hc hok (by omega) (by omega) hp w htab B hB hh
  · rw [if_pos hc]; exact RNORMAL_chk r A n c want xss hc w B hB hh
end Go.Proofs.YtnhmhjhfoonakaaGreatDoor
