/- Gain, the sound's. -/
import Derived.Test.YtnhmhjhfoonakaaWe
import Derived.Test.YtnhmhjhfoonakaaYm
import Derived.Test.YtnhmhjhfoonakaaZa
import Derived.Test.YtnhmhjhfoonakaaRegion3
set_option linter.unusedSimpArgs false
set_option linter.unusedVariables false
namespace Go.Proofs.Ytnhmhjhfoonakaa
open Go.RowKit Go.Dw
attribute [local go_sem ↓] Go.wp_at_zero Go.wp_at_succ
/-- what Gain returns -/
noncomputable def gainS (r : Int) (xss : List (List Int)) (S T : ByteArray) : Int × List (List Int) × Int × Int :=
  if chkS r xss ≠ 0 then (0, [], 0, chkS r xss) else if chkQ S T ≠ 0 then (0, [], 0, chkQ S T) else (r, xss.map (List.map (gnV (valQ S T))), stS (gnU (valQ S T)) 0 xss, 0)
set_option maxHeartbeats 800000 in
theorem GAIN_chk (r : Int) (A : Option Addr) (n c : Nat) (S T : ByteArray) (xss : List (List Int)) (hc : chkS r xss ≠ 0) (w : World) (B : Nat) (hB : B ≤ w.heap.size) (hh : Hid (RowsAt w B A n xss)) :
    Calls Try.prog 12 #[.agg #[.int .i64 r, .slice A n c], .agg #[.string S, .string T]] w (OutS3 w 0 [] 0 (chkS r xss)) := by
  have hq : (chkS r xss != 0) = true := by simpa using hc
  clear hc
  go_enter Try.func12, Try.ntmps12
  go_wp2_with fail
  refine calls_later (w.heap.size + 3) ?_
  intro W hW hsW
  obtain ⟨hcW, hfW⟩ := bcell hW
  simp only [World.size_alloc] at hsW
  have hbW : Below w.heap.size w W := ((((Below.refl _ w).alloc (Nat.le_refl _) _).alloc (by simp) _).alloc (by simp; omega) _).trans (hW.mono (by omega))
  go_wp2_with fail
  refine (CHECK_any r A n c xss _ B (by omega) (hh.out.below hbW hB)).mono ?_
  rintro e w1 ⟨rfl, hb1⟩
  have hS1 : Below (w.heap.size + 3) W w1 := hb1.mono hsW
  have hz1 := pcell hS1
  have hy1 := (bcell hS1).2
  clear hb1
  go_wp2_with fail
  refine end_snd3 (o0 := .int .i64 0) (o1 := .slice none 0 0) rfl rfl rfl ?_ ?_ ?_
  · rw [hz1 _ (by simp), hcW _ _ (by simp)]; simp [go_sem]
  · rw [hz1 _ (by simp), hcW _ _ (by simp)]; simp [go_sem]
  · exact OutS3.err rfl (set2_below (hbW.trans (hS1.mono (by omega))) (by omega))
set_option maxHeartbeats 800000 in
theorem GAIN_bad (r : Int) (A : Option Addr) (n c : Nat) (S T : ByteArray) (hs : S.size ≤ maxLen) (ht : T.size ≤ maxLen) (xss : List (List Int)) (hc : Hid (chkS r xss = 0)) (hd : chkQ S T ≠ 0) (w : World) (B : Nat) (hB : B ≤ w.heap.size) (hh : Hid (RowsAt w B A n xss)) :
    Calls Try.prog 12 #[.agg #[.int .i64 r, .slice A n c], .agg #[.string S, .string T]] w (OutS3 w 0 [] 0 (chkQ S T)) := by
  have hq : (chkS r xss != 0) = false := by rw [hc.out]; rfl
  have hq2 : (chkQ S T != 0) = true := by simpa using hd
  clear hd
  go_enter Try.func12, Try.ntmps12
  go_wp2_with fail
  refine calls_later (w.heap.size + 3) ?_
  intro W hW hsW
  obtain ⟨hcW, hfW⟩ := bcell hW
  simp only [World.size_alloc] at hsW
  have hbW : Below w.heap.size w W := ((((Below.refl _ w).alloc (Nat.le_refl _) _).alloc (by simp) _).alloc (by simp; omega) _).trans (hW.mono (by omega))
  go_wp2_with fail
  refine (CHECK_any r A n c xss _ B (by omega) (hh.out.below hbW hB)).mono ?_
  rintro e w1 ⟨rfl, hb1⟩
  have hS1 : Below (w.heap.size + 3) W w1 := hb1.mono hsW
  have hz1 := pcell hS1
  clear hb1
  go_wp2_with fail
  refine (CHECKRATIO_any S T hs ht _).mono ?_
  rintro e w2 ⟨rfl, hb2⟩
  have hS2 := Below.next hS1 hsW hb2
  clear hz1 hb2
  have hz2 := pcell hS2
  have hy2 := (bcell hS2).2
  go_wp2_with fail
  refine end_snd3 (o0 := .int .i64 0) (o1 := .slice none 0 0) rfl rfl rfl ?_ ?_ ?_
  · rw [hz2 _ (by simp), hcW _ _ (by simp)]; simp [go_sem]
  · rw [hz2 _ (by simp), hcW _ _ (by simp)]; simp [go_sem]
  · exact OutS3.err rfl (set2_below (hbW.trans (hS2.mono (by omega))) (by omega))
set_option maxRecDepth 100000 in
set_option maxHeartbeats 4000000 in
theorem GAIN_ok (r : Int) (ad : Addr) (n c : Nat) (S T : ByteArray) (q : Rat) (hrt : Rt S T q) (xss : List (List Int)) (hok : Hid (OkS r xss)) (hc : Hid (chkS r xss = 0)) (w : World) (B : Nat) (hB : B ≤ w.heap.size) (hh : Hid (RowsAt w B (some ad) n xss)) :
    Calls Try.prog 12 #[.agg #[.int .i64 r, .slice (some ad) n c], .agg #[.string S, .string T]] w (OutS3 w r (xss.map (List.map (gnV q))) (stS (gnU q) 0 xss) 0) := by
  have hq : (chkS r xss != 0) = false := by rw [hc.out]; rfl
  have hck : chkQ S T = 0 := hrt.chk
  have hq2 : (chkQ S T != 0) = false := by rw [hck]; rfl
  have hsz2 := hrt.size
  have HRT := Lib.hid hrt
  obtain ⟨W, gx, hW, hgx, HHW, HBX, HSW⟩ := boxes3 w (.cells #[.int .i64 r, .slice (some ad) n c] 24) (.cells #[.string S, .string T] 36) (.cells #[.int .i64 0, .slice none 0 0] 24)
  have HGX := Lib.hid hgx
  obtain ⟨x0, x1, _, _⟩ := two_cells HHW.out.1
  obtain ⟨y0, y1, _, _⟩ := two_cells HHW.out.2.1
  have hgw := blk_lt HHW.out.2.2
  go_enter Try.func12, Try.ntmps12
  go_upto_region 1 with (fail)
  rw [← hW, ← hgx]
  clear hW hgx
  go_wp2_with fail
  refine (CHECK_any r (some ad) n c xss _ B (Nat.le_trans hB HBX.out.size) (hh.out.below HBX.out hB)).mono ?_
  rintro e w1 ⟨rfl, hb1⟩
  clear x0 x1 y0 y1
  replace HHW := Lib.hid (And.intro ((hb1.block gx (by omega)).trans HHW.out.1) (And.intro ((hb1.block (gx + 1) (by omega)).trans HHW.out.2.1) ((hb1.block (gx + 1 + 1) hgw).trans HHW.out.2.2)))
  replace hgw := Nat.lt_of_lt_of_le hgw hb1.size
  obtain ⟨x0, x1, _, _⟩ := two_cells HHW.out.1
  obtain ⟨y0, y1, _, _⟩ := two_cells HHW.out.2.1
  replace HBX := Lib.hid (HBX.out.trans (hb1.mono HBX.out.size))
  clear hb1
  go_wp2_with fail
  refine (CHECKRATIO_any S T (by unfold maxLen; omega) (by unfold maxLen; omega) _).mono ?_
  rintro e w2 ⟨rfl, hb1⟩
  clear x0 x1 y0 y1
  replace HHW := Lib.hid (And.intro ((hb1.block gx (by omega)).trans HHW.out.1) (And.intro ((hb1.block (gx + 1) (by omega)).trans HHW.out.2.1) ((hb1.block (gx + 1 + 1) hgw).trans HHW.out.2.2)))
  replace hgw := Nat.lt_of_lt_of_le hgw hb1.size
  obtain ⟨x0, x1, _, _⟩ := two_cells HHW.out.1
  obtain ⟨y0, y1, _, _⟩ := two_cells HHW.out.2.1
  replace HBX := Lib.hid (HBX.out.trans (hb1.mono HBX.out.size))
  clear hb1 HSW
  go_upto_region 7 with (fail)
  obtain ⟨W, rfl⟩ : ∃ x : World, x = w2 := ⟨_, rfl⟩
  have HRW := Lib.hid (hh.out.below HBX.out hB)
  have hBW : B ≤ W.heap.size := Nat.le_trans hB HBX.out.size
  have hl0 : gx < W.heap.size := by omega
  have hl1 : gx + 1 < W.heap.size := by omega
  have HHR0 := HHW.out.2.2
  obtain ⟨g2, hg2⟩ : ∃ g, g = gx + 1 + 1 := ⟨_, rfl⟩
  rw [← hg2] at HHR0 hgw ⊢
  have HHR := Lib.hid HHR0
  have hgW2 : Hid (g2 < W.heap.size) := hgw
  have HG2 : Hid (w.heap.size ≤ g2) := by show _ ≤ _; have := HGX.out; omega
  clear HHR0 hg2 HHW hgw
  refine wp_region_text 8 (fun x9 => x9.cell? ⟨gx, 0, none⟩ = some (.int .i64 r) ∧ x9.cell? ⟨gx, 1, none⟩ = some (.slice (some ad) n c) ∧ x9.cell? ⟨gx + 1, 0, none⟩ = some (.string S) ∧ x9.cell? ⟨gx + 1, 1, none⟩ = some (.string T)) (by kernel_rfl) (by kernel_rfl) ?_
  obtain ⟨wc, hwc⟩ : ∃ x : World, x = W.drew := ⟨_, rfl⟩
  have hbn : Below W.heap.size W W.drew := (Below.refl _ _).drew
  have HHR := Lib.hid ((hbn.block g2 (blk_lt HHR.out)).trans HHR.out)
  clear hbn
  have HBc : Hid (Below W.heap.size W wc) := by show Below _ _ _; rw [hwc]; exact (Below.refl _ _).drew
  have hS : wc.cell? ⟨gx, 0, none⟩ = some (.int .i64 r) ∧ wc.cell? ⟨gx, 1, none⟩ = some (.slice (some ad) n c) ∧ wc.cell? ⟨gx + 1, 0, none⟩ = some (.string S) ∧ wc.cell? ⟨gx + 1, 1, none⟩ = some (.string T) := by rw [hwc]; exact ⟨x0, x1, y0, y1⟩
  have hg_0 : gx < wc.heap.size := by rw [hwc]; exact hl0
  have hg_1 : gx + 1 < wc.heap.size := by rw [hwc]; exact hl1
  rw [← hwc] at HHR
  rw [← hwc]
  clear hwc
  refine HT.load (i := 0) (oi := _) (v := ?_) rfl (by kernel_rfl) (by kernel_rfl) (by decide) (fun _ _ _ h => h) (by kernel_rfl) (Or.inl ⟨by rfl, ?_⟩) hS ?_
  rotate_left
  · intro wz hwz
    try dsimp only at hwz
    go_simp
    try with_reducible rfl
  simp only [List.getElem_toArray, List.getElem_cons_succ, List.getElem_cons_zero, Act.put, List.setIfInBounds_toArray, List.set_cons_zero, List.set_cons_succ]
  refine HT.load (i := 1) (oi := _) (v := ?_) rfl (by kernel_rfl) (by kernel_rfl) (by decide) (fun _ _ _ h => h) (by kernel_rfl) (Or.inl ⟨by rfl, ?_⟩) hS ?_
  rotate_left
  · intro wz hwz
    try dsimp only at hwz
    go_simp
    try with_reducible rfl
  simp only [List.getElem_toArray, List.getElem_cons_succ, List.getElem_cons_zero, Act.put, List.setIfInBounds_toArray, List.set_cons_zero, List.set_cons_succ]
  refine HT.two 2 7 (o := _) (o' := _) rfl rfl (by kernel_rfl) (by decide) (by decide) (by rfl) (by rfl) ?_ ?_
  · intro K hK
    go_simp
    refine (FROM_ok HRT.out _).mono ?_
    rintro e wn ⟨ng1, A1, n1, c1, D1, m1, d1, rfl, hH1, k1, l1, hbn⟩
    have H1 := Lib.hid hH1
    clear hH1
    replace HHR := Lib.hid ((hbn.block g2 (blk_lt HHR.out)).trans HHR.out)
    have HBn := Lib.hid (HBc.out.trans (hbn.mono HBc.out.size))
    have hSn : wn.cell? ⟨gx, 0, none⟩ = some (.int .i64 r) ∧ wn.cell? ⟨gx, 1, none⟩ = some (.slice (some ad) n c) ∧ wn.cell? ⟨gx + 1, 0, none⟩ = some (.string S) ∧ wn.cell? ⟨gx + 1, 1, none⟩ = some (.string T) := ⟨(hbn.cell (p := ⟨gx, 0, none⟩) hg_0).trans hS.1, (hbn.cell (p := ⟨gx, 1, none⟩) hg_0).trans hS.2.1, (hbn.cell (p := ⟨gx + 1, 0, none⟩) hg_1).trans hS.2.2.1, (hbn.cell (p := ⟨gx + 1, 1, none⟩) hg_1).trans hS.2.2.2⟩
    have hgn_0 := Nat.lt_of_lt_of_le hg_0 hbn.size
    have hgn_1 := Nat.lt_of_lt_of_le hg_1 hbn.size
    refine hK.out _ _ hSn ?_
    clear hK K hS HBc hg_0 hg_1
    try simp only [List.getElem_toArray, List.getElem_cons_succ, List.getElem_cons_zero, Act.put, List.setIfInBounds_toArray, List.set_cons_zero, List.set_cons_succ]
    have hS := hSn
    have HBc := HBn
    have hg_0 := hgn_0
    have hg_1 := hgn_1
    clear hSn HBn hbn hgn_0 hgn_1
    obtain ⟨wc, rfl⟩ : ∃ x : World, x = wn := ⟨_, rfl⟩
    refine HT.two 3 7 (o := _) (o' := _) rfl rfl (by kernel_rfl) (by decide) (by decide) (by rfl) (by rfl) ?_ ?_
    · intro K hK
      go_simp
      have HRc := Lib.hid ((HRW.out.below HBc.out hBW).mono (Nat.le_trans hBW HBc.out.size))
      refine (STIMES_ok r ad n c xss hok ng1 A1 n1 c1 D1 m1 d1 q (by omega) (by omega) _ wc.heap.size (Nat.le_refl _) HRc H1).mono ?_
      rintro e wn ⟨v2, rfl, hO2, hbn⟩
      obtain ⟨A2, c2, rfl, _, _⟩ := hO2.form
      replace hO2 := hO2.base (show W.heap.size ≤ wc.heap.size from HBc.out.size)
      clear HRc
      have O2 := Lib.hid hO2
      clear hO2
      clear H1
      replace HHR := Lib.hid ((hbn.block g2 (blk_lt HHR.out)).trans HHR.out)
      have HBn := Lib.hid (HBc.out.trans (hbn.mono HBc.out.size))
      have hSn : wn.cell? ⟨gx, 0, none⟩ = some (.int .i64 r) ∧ wn.cell? ⟨gx, 1, none⟩ = some (.slice (some ad) n c) ∧ wn.cell? ⟨gx + 1, 0, none⟩ = some (.string S) ∧ wn.cell? ⟨gx + 1, 1, none⟩ = some (.string T) := ⟨(hbn.cell (p := ⟨gx, 0, none⟩) hg_0).trans hS.1, (hbn.cell (p := ⟨gx, 1, none⟩) hg_0).trans hS.2.1, (hbn.cell (p := ⟨gx + 1, 0, none⟩) hg_1).trans hS.2.2.1, (hbn.cell (p := ⟨gx + 1, 1, none⟩) hg_1).trans hS.2.2.2⟩
      have hgn_0 := Nat.lt_of_lt_of_le hg_0 hbn.size
      have hgn_1 := Nat.lt_of_lt_of_le hg_1 hbn.size
      refine hK.out _ _ hSn ?_
      clear hK K hS HBc hg_0 hg_1
      try simp only [List.getElem_toArray, List.getElem_cons_succ, List.getElem_cons_zero, Act.put, List.setIfInBounds_toArray, List.set_cons_zero, List.set_cons_succ]
      have hS := hSn
      have HBc := HBn
      have hg_0 := hgn_0
      have hg_1 := hgn_1
      clear hSn HBn hbn hgn_0 hgn_1
      obtain ⟨wc, rfl⟩ : ∃ x : World, x = wn := ⟨_, rfl⟩
      refine HT.take (i := 4) (oi := _) (v := ?_) rfl (by kernel_rfl) (by kernel_rfl) (by decide) (fun _ _ _ h => h) (Or.inl ⟨by rfl, ?_⟩) hS ?_
      rotate_left
      · intro wz
        go_simp
        try with_reducible rfl
      simp only [List.getElem_toArray, List.getElem_cons_succ, List.getElem_cons_zero, Act.put, List.setIfInBounds_toArray, List.set_cons_zero, List.set_cons_succ]
      refine HT.take (i := 5) (oi := _) (v := ?_) rfl (by kernel_rfl) (by kernel_rfl) (by decide) (fun _ _ _ h => h) (Or.inl ⟨by rfl, ?_⟩) hS ?_
      rotate_left
      · intro wz
        go_simp
        try with_reducible rfl
      simp only [List.getElem_toArray, List.getElem_cons_succ, List.getElem_cons_zero, Act.put, List.setIfInBounds_toArray, List.set_cons_zero, List.set_cons_succ]
      refine HT.take (i := 6) (oi := _) (v := ?_) rfl (by kernel_rfl) (by kernel_rfl) (by decide) (fun _ _ _ h => h) (Or.inl ⟨by rfl, ?_⟩) hS ?_
      rotate_left
      · intro wz
        go_simp
        try with_reducible rfl
      simp only [List.getElem_toArray, List.getElem_cons_succ, List.getElem_cons_zero, Act.put, List.setIfInBounds_toArray, List.set_cons_zero, List.set_cons_succ]
      refine HT.one (i := 7) (o := _) rfl (by kernel_rfl) (by decide) (by rfl) ?_
      intro K hK
      go_simp
      obtain ⟨wn, ga, hwn, hga9, hHA, hbn0, _⟩ := cell_new0 wc 24 #[.int .i64 0, .slice none 0 0]
      have hbn := hbn0.out
      have HGga : Hid (W.heap.size ≤ ga) := by show _ ≤ _; rw [hga9]; exact HBc.out.size
      have hne_g2_ga : g2 ≠ ga := by have := blk_lt HHR.out; omega
      rw [← hwn, ← hga9]
      have HA := hHA
      clear hwn hga9 hbn0 hHA
      replace HHR := Lib.hid ((hbn.block g2 (blk_lt HHR.out)).trans HHR.out)
      replace O2 := Lib.hid (O2.out.below hbn)
      have HBn := Lib.hid (HBc.out.trans (hbn.mono HBc.out.size))
      have hSn : wn.cell? ⟨gx, 0, none⟩ = some (.int .i64 r) ∧ wn.cell? ⟨gx, 1, none⟩ = some (.slice (some ad) n c) ∧ wn.cell? ⟨gx + 1, 0, none⟩ = some (.string S) ∧ wn.cell? ⟨gx + 1, 1, none⟩ = some (.string T) := ⟨(hbn.cell (p := ⟨gx, 0, none⟩) hg_0).trans hS.1, (hbn.cell (p := ⟨gx, 1, none⟩) hg_0).trans hS.2.1, (hbn.cell (p := ⟨gx + 1, 0, none⟩) hg_1).trans hS.2.2.1, (hbn.cell (p := ⟨gx + 1, 1, none⟩) hg_1).trans hS.2.2.2⟩
      have hgn_0 := Nat.lt_of_lt_of_le hg_0 hbn.size
      have hgn_1 := Nat.lt_of_lt_of_le hg_1 hbn.size
      refine hK.out _ _ hSn ?_
      clear hK K hS HBc hg_0 hg_1
      try simp only [List.getElem_toArray, List.getElem_cons_succ, List.getElem_cons_zero, Act.put, List.setIfInBounds_toArray, List.set_cons_zero, List.set_cons_succ]
      have hS := hSn
      have HBc := HBn
      have hg_0 := hgn_0
      have hg_1 := hgn_1
      clear hSn HBn hbn hgn_0 hgn_1
      obtain ⟨wc, rfl⟩ : ∃ x : World, x = wn := ⟨_, rfl⟩
      obtain ⟨hr0, hr1, hf0, hf1⟩ := two_cells HHR.out
      obtain ⟨ha0, ha1, hfa0, hfa1⟩ := two_cells HA.out
      have hla := blk_lt HA.out
      have hl2 := blk_lt HHR.out
      refine HT.done (by kernel_rfl) ?_
      clear hS
      simp only [List.drop_succ_cons, List.drop_zero]
      have hne1 : ¬ ga = g2 := by have := HGga.out; have := hgW2.out; omega
      have hne2 : ¬ g2 = ga := Ne.symm hne1
      obtain ⟨cnt, hcnt⟩ : ∃ cnt, stS (gnU q) 0 xss = cnt := ⟨_, rfl⟩
      have Hcnt := Lib.hid hcnt
      rw [hcnt]
      clear hcnt
      go_wp2_with fail
      have hga9 := HGga.out
      have hg29 := HG2.out
      have hw29 := hgW2.out
      have hbx9 := HBX.out.size
      have HB9 := HBX.out.trans (HBc.out.mono HBX.out.size)
      obtain ⟨rows, hL⟩ := O2.out
      simp only [List.length_map] at hL
      refine end_snd3 (o0 := .int .i64 0) (o1 := .slice none 0 0) rfl rfl rfl ?_ ?_ ?_
      · rw [World.cell?_setCell_other _ _ _ _ (by simp <;> omega), World.cell?_setCell_other _ _ _ _ (by simp <;> omega)]; exact hr0
      · rw [World.cell?_setCell_other _ _ _ _ (by simp <;> omega), World.cell?_setCell_other _ _ _ _ (by simp <;> omega)]; exact hr1
      · rw [Hcnt.out]
        exact ⟨_, rfl, ⟨rows, (((hL.set2_far HA.out (by decide) (by decide) _ _).set_below (p := ⟨g2, 0, none⟩) (by simp; omega) _).set_below (p := ⟨g2, 1, none⟩) (by simp; omega) _).base hbx9⟩, set2_below (set2_below HB9 (by omega)) hg29⟩
      -- HHR HA O2
    · intro K hK
      go_simp
      obtain ⟨wn, ga, hwn, hga9, hHA, hbn0, _⟩ := cell_new0 wc 24 #[.int .i64 0, .slice none 0 0]
      have hbn := hbn0.out
      have HGga : Hid (W.heap.size ≤ ga) := by show _ ≤ _; rw [hga9]; exact HBc.out.size
      have hne_g2_ga : g2 ≠ ga := by have := blk_lt HHR.out; omega
      rw [← hwn, ← hga9]
      have HA := hHA
      clear hwn hga9 hbn0 hHA
      replace HHR := Lib.hid ((hbn.block g2 (blk_lt HHR.out)).trans HHR.out)
      replace H1 := Lib.hid (H1.out.to hbn (Nat.le_refl _) hbn.size)
      have HBn := Lib.hid (HBc.out.trans (hbn.mono HBc.out.size))
      have hSn : wn.cell? ⟨gx, 0, none⟩ = some (.int .i64 r) ∧ wn.cell? ⟨gx, 1, none⟩ = some (.slice (some ad) n c) ∧ wn.cell? ⟨gx + 1, 0, none⟩ = some (.string S) ∧ wn.cell? ⟨gx + 1, 1, none⟩ = some (.string T) := ⟨(hbn.cell (p := ⟨gx, 0, none⟩) hg_0).trans hS.1, (hbn.cell (p := ⟨gx, 1, none⟩) hg_0).trans hS.2.1, (hbn.cell (p := ⟨gx + 1, 0, none⟩) hg_1).trans hS.2.2.1, (hbn.cell (p := ⟨gx + 1, 1, none⟩) hg_1).trans hS.2.2.2⟩
      have hgn_0 := Nat.lt_of_lt_of_le hg_0 hbn.size
      have hgn_1 := Nat.lt_of_lt_of_le hg_1 hbn.size
      refine hK.out _ _ hSn ?_
      clear hK K hS HBc hg_0 hg_1
      try simp only [List.getElem_toArray, List.getElem_cons_succ, List.getElem_cons_zero, Act.put, List.setIfInBounds_toArray, List.set_cons_zero, List.set_cons_succ]
      have hS := hSn
      have HBc := HBn
      have hg_0 := hgn_0
      have hg_1 := hgn_1
      clear hSn HBn hbn hgn_0 hgn_1
      obtain ⟨wc, rfl⟩ : ∃ x : World, x = wn := ⟨_, rfl⟩
      refine HT.one (i := 3) (o := _) rfl (by kernel_rfl) (by decide) (by rfl) ?_
      intro K hK
      go_simp
      have HRc := Lib.hid ((HRW.out.below HBc.out hBW).mono (Nat.le_trans hBW HBc.out.size))
      refine (STIMES_ok r ad n c xss hok ng1 A1 n1 c1 D1 m1 d1 q (by omega) (by omega) _ wc.heap.size (Nat.le_refl _) HRc H1).mono ?_
      rintro e wn ⟨v2, rfl, hO2, hbn⟩
      obtain ⟨A2, c2, rfl, _, _⟩ := hO2.form
      replace hO2 := hO2.base (show W.heap.size ≤ wc.heap.size from HBc.out.size)
      clear HRc
      have O2 := Lib.hid hO2
      clear hO2
      clear H1
      replace HHR := Lib.hid ((hbn.block g2 (blk_lt HHR.out)).trans HHR.out)
      replace HA := Lib.hid ((hbn.block ga (blk_lt HA.out)).trans HA.out)
      have HBn := Lib.hid (HBc.out.trans (hbn.mono HBc.out.size))
      have hSn : wn.cell? ⟨gx, 0, none⟩ = some (.int .i64 r) ∧ wn.cell? ⟨gx, 1, none⟩ = some (.slice (some ad) n c) ∧ wn.cell? ⟨gx + 1, 0, none⟩ = some (.string S) ∧ wn.cell? ⟨gx + 1, 1, none⟩ = some (.string T) := ⟨(hbn.cell (p := ⟨gx, 0, none⟩) hg_0).trans hS.1, (hbn.cell (p := ⟨gx, 1, none⟩) hg_0).trans hS.2.1, (hbn.cell (p := ⟨gx + 1, 0, none⟩) hg_1).trans hS.2.2.1, (hbn.cell (p := ⟨gx + 1, 1, none⟩) hg_1).trans hS.2.2.2⟩
      have hgn_0 := Nat.lt_of_lt_of_le hg_0 hbn.size
      have hgn_1 := Nat.lt_of_lt_of_le hg_1 hbn.size
      refine hK.out _ _ hSn ?_
      clear hK K hS HBc hg_0 hg_1
      try simp only [List.getElem_toArray, List.getElem_cons_succ, List.getElem_cons_zero, Act.put, List.setIfInBounds_toArray, List.set_cons_zero, List.set_cons_succ]
      have hS := hSn
      have HBc := HBn
      have hg_0 := hgn_0
      have hg_1 := hgn_1
      clear hSn HBn hbn hgn_0 hgn_1
      obtain ⟨wc, rfl⟩ : ∃ x : World, x = wn := ⟨_, rfl⟩
      refine HT.take (i := 4) (oi := _) (v := ?_) rfl (by kernel_rfl) (by kernel_rfl) (by decide) (fun _ _ _ h => h) (Or.inl ⟨by rfl, ?_⟩) hS ?_
      rotate_left
      · intro wz
        go_simp
        try with_reducible rfl
      simp only [List.getElem_toArray, List.getElem_cons_succ, List.getElem_cons_zero, Act.put, List.setIfInBounds_toArray, List.set_cons_zero, List.set_cons_succ]
      refine HT.take (i := 5) (oi := _) (v := ?_) rfl (by kernel_rfl) (by kernel_rfl) (by decide) (fun _ _ _ h => h) (Or.inl ⟨by rfl, ?_⟩) hS ?_
      rotate_left
      · intro wz
        go_simp
        try with_reducible rfl
      simp only [List.getElem_toArray, List.getElem_cons_succ, List.getElem_cons_zero, Act.put, List.setIfInBounds_toArray, List.set_cons_zero, List.set_cons_succ]
      refine HT.take (i := 6) (oi := _) (v := ?_) rfl (by kernel_rfl) (by kernel_rfl) (by decide) (fun _ _ _ h => h) (Or.inl ⟨by rfl, ?_⟩) hS ?_
      rotate_left
      · intro wz
        go_simp
        try with_reducible rfl
      simp only [List.getElem_toArray, List.getElem_cons_succ, List.getElem_cons_zero, Act.put, List.setIfInBounds_toArray, List.set_cons_zero, List.set_cons_succ]
      obtain ⟨hr0, hr1, hf0, hf1⟩ := two_cells HHR.out
      obtain ⟨ha0, ha1, hfa0, hfa1⟩ := two_cells HA.out
      have hla := blk_lt HA.out
      have hl2 := blk_lt HHR.out
      refine HT.done (by kernel_rfl) ?_
      clear hS
      simp only [List.drop_succ_cons, List.drop_zero]
      have hne1 : ¬ ga = g2 := by have := HGga.out; have := hgW2.out; omega
      have hne2 : ¬ g2 = ga := Ne.symm hne1
      obtain ⟨cnt, hcnt⟩ : ∃ cnt, stS (gnU q) 0 xss = cnt := ⟨_, rfl⟩
      have Hcnt := Lib.hid hcnt
      rw [hcnt]
      clear hcnt
      go_wp2_with fail
      have hga9 := HGga.out
      have hg29 := HG2.out
      have hw29 := hgW2.out
      have hbx9 := HBX.out.size
      have HB9 := HBX.out.trans (HBc.out.mono HBX.out.size)
      obtain ⟨rows, hL⟩ := O2.out
      simp only [List.length_map] at hL
      refine end_snd3 (o0 := .int .i64 0) (o1 := .slice none 0 0) rfl rfl rfl ?_ ?_ ?_
      · rw [World.cell?_setCell_other _ _ _ _ (by simp <;> omega), World.cell?_setCell_other _ _ _ _ (by simp <;> omega)]; exact hr0
      · rw [World.cell?_setCell_other _ _ _ _ (by simp <;> omega), World.cell?_setCell_other _ _ _ _ (by simp <;> omega)]; exact hr1
      · rw [Hcnt.out]
        exact ⟨_, rfl, ⟨rows, (((hL.set2_far HA.out (by decide) (by decide) _ _).set_below (p := ⟨g2, 0, none⟩) (by simp; omega) _).set_below (p := ⟨g2, 1, none⟩) (by simp; omega) _).base hbx9⟩, set2_below (set2_below HB9 (by omega)) hg29⟩
      -- HHR HA O2
  · intro K hK
    go_simp
    obtain ⟨wn, ga, hwn, hga9, hHA, hbn0, _⟩ := cell_new0 wc 24 #[.int .i64 0, .slice none 0 0]
    have hbn := hbn0.out
    have HGga : Hid (W.heap.size ≤ ga) := by show _ ≤ _; rw [hga9]; exact HBc.out.size
    have hne_g2_ga : g2 ≠ ga := by have := blk_lt HHR.out; omega
    rw [← hwn, ← hga9]
    have HA := hHA
    clear hwn hga9 hbn0 hHA
    replace HHR := Lib.hid ((hbn.block g2 (blk_lt HHR.out)).trans HHR.out)
    have HBn := Lib.hid (HBc.out.trans (hbn.mono HBc.out.size))
    have hSn : wn.cell? ⟨gx, 0, none⟩ = some (.int .i64 r) ∧ wn.cell? ⟨gx, 1, none⟩ = some (.slice (some ad) n c) ∧ wn.cell? ⟨gx + 1, 0, none⟩ = some (.string S) ∧ wn.cell? ⟨gx + 1, 1, none⟩ = some (.string T) := ⟨(hbn.cell (p := ⟨gx, 0, none⟩) hg_0).trans hS.1, (hbn.cell (p := ⟨gx, 1, none⟩) hg_0).trans hS.2.1, (hbn.cell (p := ⟨gx + 1, 0, none⟩) hg_1).trans hS.2.2.1, (hbn.cell (p := ⟨gx + 1, 1, none⟩) hg_1).trans hS.2.2.2⟩
    have hgn_0 := Nat.lt_of_lt_of_le hg_0 hbn.size
    have hgn_1 := Nat.lt_of_lt_of_le hg_1 hbn.size
    refine hK.out _ _ hSn ?_
    clear hK K hS HBc hg_0 hg_1
    try simp only [List.getElem_toArray, List.getElem_cons_succ, List.getElem_cons_zero, Act.put, List.setIfInBounds_toArray, List.set_cons_zero, List.set_cons_succ]
    have hS := hSn
    have HBc := HBn
    have hg_0 := hgn_0
    have hg_1 := hgn_1
    clear hSn HBn hbn hgn_0 hgn_1
    obtain ⟨wc, rfl⟩ : ∃ x : World, x = wn := ⟨_, rfl⟩
    refine HT.one (i := 2) (o := _) rfl (by kernel_rfl) (by decide) (by rfl) ?_
    intro K hK
    go_simp
    refine (FROM_ok HRT.out _).mono ?_
    rintro e wn ⟨ng1, A1, n1, c1, D1, m1, d1, rfl, hH1, k1, l1, hbn⟩
    have H1 := Lib.hid hH1
    clear hH1
    replace HHR := Lib.hid ((hbn.block g2 (blk_lt HHR.out)).trans HHR.out)
    replace HA := Lib.hid ((hbn.block ga (blk_lt HA.out)).trans HA.out)
    have HBn := Lib.hid (HBc.out.trans (hbn.mono HBc.out.size))
    have hSn : wn.cell? ⟨gx, 0, none⟩ = some (.int .i64 r) ∧ wn.cell? ⟨gx, 1, none⟩ = some (.slice (some ad) n c) ∧ wn.cell? ⟨gx + 1, 0, none⟩ = some (.string S) ∧ wn.cell? ⟨gx + 1, 1, none⟩ = some (.string T) := ⟨(hbn.cell (p := ⟨gx, 0, none⟩) hg_0).trans hS.1, (hbn.cell (p := ⟨gx, 1, none⟩) hg_0).trans hS.2.1, (hbn.cell (p := ⟨gx + 1, 0, none⟩) hg_1).trans hS.2.2.1, (hbn.cell (p := ⟨gx + 1, 1, none⟩) hg_1).trans hS.2.2.2⟩
    have hgn_0 := Nat.lt_of_lt_of_le hg_0 hbn.size
    have hgn_1 := Nat.lt_of_lt_of_le hg_1 hbn.size
    refine hK.out _ _ hSn ?_
    clear hK K hS HBc hg_0 hg_1
    try simp only [List.getElem_toArray, List.getElem_cons_succ, List.getElem_cons_zero, Act.put, List.setIfInBounds_toArray, List.set_cons_zero, List.set_cons_succ]
    have hS := hSn
    have HBc := HBn
    have hg_0 := hgn_0
    have hg_1 := hgn_1
    clear hSn HBn hbn hgn_0 hgn_1
    obtain ⟨wc, rfl⟩ : ∃ x : World, x = wn := ⟨_, rfl⟩
    refine HT.one (i := 3) (o := _) rfl (by kernel_rfl) (by decide) (by rfl) ?_
    intro K hK
    go_simp
    have HRc := Lib.hid ((HRW.out.below HBc.out hBW).mono (Nat.le_trans hBW HBc.out.size))
    refine (STIMES_ok r ad n c xss hok ng1 A1 n1 c1 D1 m1 d1 q (by omega) (by omega) _ wc.heap.size (Nat.le_refl _) HRc H1).mono ?_
    rintro e wn ⟨v2, rfl, hO2, hbn⟩
    obtain ⟨A2, c2, rfl, _, _⟩ := hO2.form
    replace hO2 := hO2.base (show W.heap.size ≤ wc.heap.size from HBc.out.size)
    clear HRc
    have O2 := Lib.hid hO2
    clear hO2
    clear H1
    replace HHR := Lib.hid ((hbn.block g2 (blk_lt HHR.out)).trans HHR.out)
    replace HA := Lib.hid ((hbn.block ga (blk_lt HA.out)).trans HA.out)
    have HBn := Lib.hid (HBc.out.trans (hbn.mono HBc.out.size))
    have hSn : wn.cell? ⟨gx, 0, none⟩ = some (.int .i64 r) ∧ wn.cell? ⟨gx, 1, none⟩ = some (.slice (some ad) n c) ∧ wn.cell? ⟨gx + 1, 0, none⟩ = some (.string S) ∧ wn.cell? ⟨gx + 1, 1, none⟩ = some (.string T) := ⟨(hbn.cell (p := ⟨gx, 0, none⟩) hg_0).trans hS.1, (hbn.cell (p := ⟨gx, 1, none⟩) hg_0).trans hS.2.1, (hbn.cell (p := ⟨gx + 1, 0, none⟩) hg_1).trans hS.2.2.1, (hbn.cell (p := ⟨gx + 1, 1, none⟩) hg_1).trans hS.2.2.2⟩
    have hgn_0 := Nat.lt_of_lt_of_le hg_0 hbn.size
    have hgn_1 := Nat.lt_of_lt_of_le hg_1 hbn.size
    refine hK.out _ _ hSn ?_
    clear hK K hS HBc hg_0 hg_1
    try simp only [List.getElem_toArray, List.getElem_cons_succ, List.getElem_cons_zero, Act.put, List.setIfInBounds_toArray, List.set_cons_zero, List.set_cons_succ]
    have hS := hSn
    have HBc := HBn
    have hg_0 := hgn_0
    have hg_1 := hgn_1
    clear hSn HBn hbn hgn_0 hgn_1
    obtain ⟨wc, rfl⟩ : ∃ x : World, x = wn := ⟨_, rfl⟩
    refine HT.take (i := 4) (oi := _) (v := ?_) rfl (by kernel_rfl) (by kernel_rfl) (by decide) (fun _ _ _ h => h) (Or.inl ⟨by rfl, ?_⟩) hS ?_
    rotate_left
    · intro wz
      go_simp
      try with_reducible rfl
    simp only [List.getElem_toArray, List.getElem_cons_succ, List.getElem_cons_zero, Act.put, List.setIfInBounds_toArray, List.set_cons_zero, List.set_cons_succ]
    refine HT.take (i := 5) (oi := _) (v := ?_) rfl (by kernel_rfl) (by kernel_rfl) (by decide) (fun _ _ _ h => h) (Or.inl ⟨by rfl, ?_⟩) hS ?_
    rotate_left
    · intro wz
      go_simp
      try with_reducible rfl
    simp only [List.getElem_toArray, List.getElem_cons_succ, List.getElem_cons_zero, Act.put, List.setIfInBounds_toArray, List.set_cons_zero, List.set_cons_succ]
    refine HT.take (i := 6) (oi := _) (v := ?_) rfl (by kernel_rfl) (by kernel_rfl) (by decide) (fun _ _ _ h => h) (Or.inl ⟨by rfl, ?_⟩) hS ?_
    rotate_left
    · intro wz
      go_simp
      try with_reducible rfl
    simp only [List.getElem_toArray, List.getElem_cons_succ, List.getElem_cons_zero, Act.put, List.setIfInBounds_toArray, List.set_cons_zero, List.set_cons_succ]
    obtain ⟨hr0, hr1, hf0, hf1⟩ := two_cells HHR.out
    obtain ⟨ha0, ha1, hfa0, hfa1⟩ := two_cells HA.out
    have hla := blk_lt HA.out
    have hl2 := blk_lt HHR.out
    refine HT.done (by kernel_rfl) ?_
    clear hS
    simp only [List.drop_succ_cons, List.drop_zero]
    have hne1 : ¬ ga = g2 := by have := HGga.out; have := hgW2.out; omega
    have hne2 : ¬ g2 = ga := Ne.symm hne1
    obtain ⟨cnt, hcnt⟩ : ∃ cnt, stS (gnU q) 0 xss = cnt := ⟨_, rfl⟩
    have Hcnt := Lib.hid hcnt
    rw [hcnt]
    clear hcnt
    go_wp2_with fail
    have hga9 := HGga.out
    have hg29 := HG2.out
    have hw29 := hgW2.out
    have hbx9 := HBX.out.size
    have HB9 := HBX.out.trans (HBc.out.mono HBX.out.size)
    obtain ⟨rows, hL⟩ := O2.out
    simp only [List.length_map] at hL
    refine end_snd3 (o0 := .int .i64 0) (o1 := .slice none 0 0) rfl rfl rfl ?_ ?_ ?_
    · rw [World.cell?_setCell_other _ _ _ _ (by simp <;> omega), World.cell?_setCell_other _ _ _ _ (by simp <;> omega)]; exact hr0
    · rw [World.cell?_setCell_other _ _ _ _ (by simp <;> omega), World.cell?_setCell_other _ _ _ _ (by simp <;> omega)]; exact hr1
    · rw [Hcnt.out]
      exact ⟨_, rfl, ⟨rows, (((hL.set2_far HA.out (by decide) (by decide) _ _).set_below (p := ⟨g2, 0, none⟩) (by simp; omega) _).set_below (p := ⟨g2, 1, none⟩) (by simp; omega) _).base hbx9⟩, set2_below (set2_below HB9 (by omega)) hg29⟩
    -- HHR HA O2
theorem GAIN_any (r : Int) (A : Option Addr) (n c : Nat) (S T : ByteArray) (hs : S.size ≤ maxLen) (ht : T.size ≤ maxLen) (xss : List (List Int)) (w : World)  (B : Nat) (hB : B ≤ w.heap.size) (hh : RowsAt w B A n xss) :
    Calls Try.prog 12 #[.agg #[.int .i64 r, .slice A n c], .agg #[.string S, .string T]] w (OutS3 w (gainS r xss S T).1 (gainS r xss S T).2.1 (gainS r xss S T).2.2.1 (gainS r xss S T).2.2.2) := by
  unfold gainS
  by_cases hc : chkS r xss = 0
  · have hok := chkS_ok hc
    have hn : 0 < n := by have := hok.some; have := hh.1; omega
    obtain ⟨ad, rfl⟩ := hh.addr hn
    rw [if_neg (by simp [hc])]
    by_cases hd : chkQ S T = 0
    · rw [if_neg (by simp [hd])]
      exact GAIN_ok r ad n c S T (valQ S T) (Rt.of hd) xss hok hc w  B hB hh
    · rw [if_pos hd]; exact GAIN_bad r (some ad) n c S T hs ht xss hc hd w B hB hh
  · rw [if_pos hc]; exact GAIN_chk r A n c S T xss hc w B hB hh
end Go.Proofs.Ytnhmhjhfoonakaa
