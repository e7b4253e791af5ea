/- Gain, the sound's. -/
import Derived.Test.YtnhmhjhfoonakaaGreatDoorWe
import Derived.Test.YtnhmhjhfoonakaaGreatDoorYm
import Derived.Test.YtnhmhjhfoonakaaGreatDoorZa
import Derived.Test.YtnhmhjhfoonakaaGreatDoorRegion3
import Derived.Test.YtnhmhjhfoonakaaGreatDoorWg
import Derived.Deep.AppendLies
set_option linter.unusedSimpArgs false
set_option linter.unusedVariables false
namespace Go.Proofs.YtnhmhjhfoonakaaGreatDoor
open Go.RowKit Go.Dw
attribute [local go_sem ↓] Go.wp_at_zero Go.wp_at_succ
/-- what Gain returns -/
noncomputable def gainS (r : Int) (xss : List (List Int)) (S T : ByteArray) : Int × List (List Int) × Int × Int :=
  if chkS r xss ≠ 0 then (0, [], 0, chkS r xss) else if chkQ S T ≠ 0 then (0, [], 0, chkQ S T) else (r, xss.map (List.map (gnV (valQ S T))), stS (gnU (valQ S T)) 0 xss, 0)
set_option maxHeartbeats 800000 in
theorem GAIN_chk (r : Int) (A : Option Addr) (n c : Nat) (S T : ByteArray) (xss : List (List Int)) (hc : chkS r xss ≠ 0) (w : World) (B : Nat) (hB : B ≤ w.heap.size) (hh : Hid (RowsAt w B A n xss)) :
    Calls Tryz.prog 6 #[.agg #[.int .i64 r, .slice A n c], .agg #[.string S, .string T]] w (OutS3 w 0 [] 0 (chkS r xss)) := by
  have hq : (chkS r xss != 0) = true := by simpa using hc
  clear hc
  go_enter Tryz.func6, Tryz.ntmps6
  go_wp2_with fail
  refine calls_later (w.heap.size + 3) ?_
  intro W hW hsW
  obtain ⟨hcW, hfW⟩ := bcell hW
  simp only [World.size_alloc] at hsW
  have hbW : Below w.heap.size w W := ((((Below.refl _ w).alloc (Nat.le_refl _) _).alloc (by simp) _).alloc (by simp; omega) _).trans (hW.mono (by omega))
  go_wp2_with fail
  refine (CHECK_any r A n c xss _ B (by omega) (hh.out.below hbW hB)).mono ?_
  rintro e w1 ⟨rfl, hb1⟩
  have hS1 : Below (w.heap.size + 3) W w1 := hb1.mono hsW
  have hz1 := pcell hS1
  have hy1 := (bcell hS1).2
  clear hb1
  go_wp2_with fail
  refine end_snd3 (o0 := .int .i64 0) (o1 := .slice none 0 0) rfl rfl rfl ?_ ?_ ?_
  · rw [hz1 _ (by simp), hcW _ _ (by simp)]; simp [go_sem]
  · rw [hz1 _ (by simp), hcW _ _ (by simp)]; simp [go_sem]
  · exact OutS3.err rfl (set2_below (hbW.trans (hS1.mono (by omega))) (by omega))
set_option maxHeartbeats 800000 in
theorem GAIN_bad (r : Int) (A : Option Addr) (n c : Nat) (S T : ByteArray) (hs : S.size ≤ maxLen) (ht : T.size ≤ maxLen) (xss : List (List Int)) (hc : Hid (chkS r xss = 0)) (hd : chkQ S T ≠ 0) (w : World) (B : Nat) (hB : B ≤ w.heap.size) (hh : Hid (RowsAt w B A n xss)) :
    Calls Tryz.prog 6 #[.agg #[.int .i64 r, .slice A n c], .agg #[.string S, .string T]] w (OutS3 w 0 [] 0 (chkQ S T)) := by
  have hq : (chkS r xss != 0) = false := by rw [hc.out]; rfl
  have hq2 : (chkQ S T != 0) = true := by simpa using hd
  clear hd
  go_enter Tryz.func6, Tryz.ntmps6
  go_wp2_with fail
  refine calls_later (w.heap.size + 3) ?_
  intro W hW hsW
  obtain ⟨hcW, hfW⟩ := bcell hW
  simp only [World.size_alloc] at hsW
  have hbW : Below w.heap.size w W := ((((Below.refl _ w).alloc (Nat.le_refl _) _).alloc (by simp) _).alloc (by simp; omega) _).trans (hW.mono (by omega))
  go_wp2_with fail
  refine (CHECK_any r A n c xss _ B (by omega) (hh.out.below hbW hB)).mono ?_
  rintro e w1 ⟨rfl, hb1⟩
  have hS1 : Below (w.heap.size + 3) W w1 := hb1.mono hsW
  have hz1 := pcell hS1
  clear hb1
  go_wp2_with fail
  refine (CHECKRATIO_any S T hs ht _).mono ?_
  rintro e w2 ⟨rfl, hb2⟩
  have hS2 := Below.next hS1 hsW hb2
  clear hz1 hb2
  have hz2 := pcell hS2
  have hy2 := (bcell hS2).2
  go_wp2_with fail
  refine end_snd3 (o0 := .int .i64 0) (o1 := .slice none 0 0) rfl rfl rfl ?_ ?_ ?_
  · rw [hz2 _ (by simp), hcW _ _ (by simp)]; simp [go_sem]
  · rw [hz2 _ (by simp), hcW _ _ (by simp)]; simp [go_sem]
  · exact OutS3.err rfl (set2_below (hbW.trans (hS2.mono (by omega))) (by omega))
set_option maxRecDepth 100000 in
set_option maxHeartbeats 4000000 in
theorem GAIN_ok (r : Int) (ad : Addr) (n c : Nat) (S T : ByteArray) (q : Rat) (hrt : Rt S T q) (xss : List (List Int)) (hok : Hid (OkS r xss)) (hc : Hid (chkS r xss = 0)) (w : World) (B : Nat) (hB : B ≤ w.heap.size) (hh : Hid (RowsAt w B (some ad) n xss)) :
    Calls Tryz.prog 6 #[.agg #[.int .i64 r, .slice (some ad) n c], .agg #[.string S, .string T]] w (OutS3 w r (xss.map (List.map (gnV q))) (stS (gnU q) 0 xss) 0) := by
  have hq : (chkS r xss != 0) = false := by rw [hc.out]; rfl
  have hck : chkQ S T = 0 := hrt.chk
  have hq2 : (chkQ S T != 0) = false := by rw [hck]; rfl
  have hsz2 := hrt.size
  have HRT := Lib.hid hrt
  obtain ⟨W, gx, hW, hgx, HHW, HBX, HSW⟩ := boxes3 w (.cells #[.int .i64 r, .slice (some ad) n c] 24) (.cells #[.string S, .string T] 26) (.cells #[.int .i64 0, .slice none 0 0] 24)
  have HGX := Lib.hid hgx
  obtain ⟨x0, x1, _, _⟩ := two_cells HHW.out.1
  obtain ⟨y0, y1, _, _⟩ := two_cells HHW.out.2.1
  have hgw := blk_lt HHW.out.2.2
  go_enter Tryz.func6, Tryz.ntmps6
  go_upto_region 1 with (fail)
  rw [← hW, ← hgx]
  clear hW hgx
  go_wp2_with fail
  refine (CHECK_any r (some ad) n c xss _ B (Nat.le_trans hB HBX.out.size) (hh.out.below HBX.out hB)).mono ?_
  rintro e w1 ⟨rfl, hb1⟩
  clear x0 x1 y0 y1
  replace HHW := Lib.hid (And.intro ((hb1.block gx (by omega)).trans HHW.out.1) (And.intro ((hb1.block (gx + 1) (by omega)).trans HHW.out.2.1) ((hb1.block (gx + 1 + 1) hgw).trans HHW.out.2.2)))
  replace hgw := Nat.lt_of_lt_of_le hgw hb1.size
  obtain ⟨x0, x1, _, _⟩ := two_cells HHW.out.1
  obtain ⟨y0, y1, _, _⟩ := two_cells HHW.out.2.1
  replace HBX := Lib.hid (HBX.out.trans (hb1.mono HBX.out.size))
  clear hb1
  go_wp2_with fail
  refine (CHECKRATIO_any S T (by unfold maxLen; omega) (by unfold maxLen; omega) _).mono ?_
  rintro e w2 ⟨rfl, hb1⟩
  clear x0 x1 y0 y1
  replace HHW := Lib.hid (And.intro ((hb1.block gx (by omega)).trans HHW.out.1) (And.intro ((hb1.block (gx + 1) (by omega)).trans HHW.out.2.1) ((hb1.block (gx + 1 + 1) hgw).trans HHW.out.2.2)))
  replace hgw := Nat.lt_of_lt_of_le hgw hb1.size
  obtain ⟨x0, x1, _, _⟩ := two_cells HHW.out.1
  obtain ⟨y0, y1, _, _⟩ := two_cells HHW.out.2.1
  replace HBX := Lib.hid (HBX.out.trans (hb1.mono HBX.out.size))
  clear hb1 HSW
  go_upto_region 7 with (fail)
  obtain ⟨W, rfl⟩ : ∃ x : World, x = w2 := ⟨_, rfl⟩
  have HRW := Lib.hid (hh.out.below HBX.out hB)
  have hBW : B ≤ W.heap.size := Nat.le_trans hB HBX.out.size
  have hl0 : gx < W.heap.size := by omega
  have hl1 : gx + 1 < W.heap.size := by omega
  have HHR0 := HHW.out.2.2
  obtain ⟨g2, hg2⟩ : ∃ g, g = gx + 1 + 1 := ⟨_, rfl⟩
  rw [← hg2] at HHR0 hgw ⊢
  have HHR := Lib.hid HHR0
  have hgW2 : Hid (g2 < W.heap.size) := hgw
  have HG2 : Hid (w.heap.size ≤ g2) := by show _ ≤ _; have := HGX.out; omega
  clear HHR0 hg2 HHW hgw
  refine wp_region_text 8 (fun x9 => x9.cell? ⟨gx, 0, none⟩ = some (.int .i64 r) ∧ x9.cell? ⟨gx, 1, none⟩ = some (.slice (some ad) n c) ∧ x9.cell? ⟨gx + 1, 0, none⟩ = some (.string S) ∧ x9.cell? ⟨gx + 1, 1, none⟩ = some (.string T)) (by kernel_rfl) (by kernel_rfl) ?_
  obtain ⟨wc, hwc⟩ : ∃ x : World, x = W.drew := ⟨_, rfl⟩
  have hbn : Below W.heap.size W W.drew := (Below.refl _ _).drew
  have HHR := Lib.hid ((hbn.block g2 (blk_lt HHR.out)).trans HHR.out)
  clear hbn
  have HBc : Hid (Below W.heap.size W wc) := by show Below _ _ _; rw [hwc]; exact (Below.refl _ _).drew
  have hS : wc.cell? ⟨gx, 0, none⟩ = some (.int .i64 r) ∧ wc.cell? ⟨gx, 1, none⟩ = some (.slice (some ad) n c) ∧ wc.cell? ⟨gx + 1, 0, none⟩ = some (.string S) ∧ wc.cell? ⟨gx + 1, 1, none⟩ = some (.string T) := by rw [hwc]; exact ⟨x0, x1, y0, y1⟩
  have hg_0 : gx < wc.heap.size := by rw [hwc]; exact hl0
  have hg_1 : gx + 1 < wc.heap.size := by rw [hwc]; exact hl1
  rw [← hwc] at HHR
  rw [← hwc]
  clear hwc
  refine HT.load (i := 0) (oi := _) (v := ?_) rfl (by kernel_rfl) (by kernel_rfl) (by decide) (fun _ _ _ h => h) (by kernel_rfl) (Or.inl ⟨by rfl, ?_⟩) hS ?_
  rotate_left
  · intro wz hwz
    try dsimp only at hwz
    go_simp
    try with_reducible rfl
  simp only [List.getElem_toArray, List.getElem_cons_succ, List.getElem_cons_zero, Act.put, List.setIfInBounds_toArray, List.set_cons_zero, List.set_cons_succ]
  refine HT.load (i := 1) (oi := _) (v := ?_) rfl (by kernel_rfl) (by kernel_rfl) (by decide) (fun _ _ _ h => h) (by kernel_rfl) (Or.inl ⟨by rfl, ?_⟩) hS ?_
  rotate_left
  · intro wz hwz
    try dsimp only at hwz
    go_simp
    try with_reducible rfl
  simp only [List.getElem_toArray, List.getElem_cons_succ, List.getElem_cons_zero, Act.put, List.setIfInBounds_toArray, List.set_cons_zero, List.set_cons_succ]
  refine HT.two 2 7 (o := _) (o' := _) rfl rfl (by kernel_rfl) (by decide) (by decide) (by rfl) (by rfl) ?_ ?_
  · intro K hK
    go_simp
    refine (FROM_ok HRT.out _).mono ?_
    rintro e wn ⟨ng1, A1, n1, c1, D1, m1, d1, rfl, hH1, k1, l1, hbn⟩
    have H1 := Lib.hid hH1
    clear hH1
    replace HHR := Lib.hid ((hbn.block g2 (blk_lt HHR.out)).trans HHR.out)
    have HBn := Lib.hid (HBc.out.trans (hbn.mono HBc.out.size))
    have hSn : wn.cell? ⟨gx, 0, none⟩ = some (.int .i64 r) ∧ wn.cell? ⟨gx, 1, none⟩ = some (.slice (some ad) n c) ∧ wn.cell? ⟨gx + 1, 0, none⟩ = some (.string S) ∧ wn.cell? ⟨gx + 1, 1, none⟩ = some (.string T) := ⟨(hbn.cell (p := ⟨gx, 0, none⟩) hg_0).trans hS.1, (hbn.cell (p := ⟨gx, 1, none⟩) hg_0).trans hS.2.1, (hbn.cell (p := ⟨gx + 1, 0, none⟩) hg_1).trans hS.2.2.1, (hbn.cell (p := ⟨gx + 1, 1, none⟩) hg_1).trans hS.2.2.2⟩
    have hgn_0 := Nat.lt_of_lt_of_le hg_0 hbn.size
    have hgn_1 := Nat.lt_of_lt_of_le hg_1 hbn.size
    refine hK.out _ _ hSn ?_
    clear hK K hS HBc hg_0 hg_1
    try simp only [List.getElem_toArray, List.getElem_cons_succ, List.getElem_cons_zero, Act.put, List.setIfInBounds_toArray, List.set_cons_zero, List.set_cons_succ]
    have hS := hSn
    have HBc := HBn
    have hg_0 := hgn_0
    have hg_1 := hgn_1
    clear hSn HBn hbn hgn_0 hgn_1
    obtain ⟨wc, rfl⟩ : ∃ x : World, x = wn := ⟨_, rfl⟩
    refine HT.two 3 7 (o := _) (o' := _) rfl rfl (by kernel_rfl) (by decide) (by decide) (by rfl) (by rfl) ?_ ?_
    · intro K hK
      go_simp
      have HRc := Lib.hid ((HRW.out.below HBc.out hBW).mono (Nat.le_trans hBW HBc.out.size))
      refine (STIMES_ok r ad n c xss hok ng1 A1 n1 c1 D1 m1 d1 q (by omega) (by omega) _ wc.heap.size (Nat.le_refl _) HRc H1).mono ?_
      rintro e wn ⟨v2, rfl, hO2, hbn⟩
      obtain ⟨A2, c2, rfl, _, _⟩ := hO2.form
      replace hO2 := hO2.base (show W.heap.size ≤ wc.heap.size from HBc.out.size)
      clear HRc
      have O2 := Lib.hid hO2
      clear hO2
      clear H1
      replace HHR := Lib.hid ((hbn.block g2 (blk_lt HHR.out)).trans HHR.out)
      have HBn := Lib.hid (HBc.out.trans (hbn.mono HBc.out.size))
      have hSn : wn.cell? ⟨gx, 0, none⟩ = some (.int .i64 r) ∧ wn.cell? ⟨gx, 1, none⟩ = some (.slice (some ad) n c) ∧ wn.cell? ⟨gx + 1, 0, none⟩ = some (.string S) ∧ wn.cell? ⟨gx + 1, 1, none⟩ = some (.string T) := ⟨(hbn.cell (p := ⟨gx, 0, none⟩) hg_0).trans hS.1, (hbn.cell (p := ⟨gx, 1, none⟩) hg_0).trans hS.2.1, (hbn.cell (p := ⟨gx + 1, 0, none⟩) hg_1).trans hS.2.2.1, (hbn.cell (p := ⟨gx + 1, 1, none⟩) hg_1).trans hS.2.2.2⟩
      have hgn_0 := Nat.lt_of_lt_of_le hg_0 hbn.size
      have hgn_1 := Nat.lt_of_lt_of_le hg_1 hbn.size
      refine hK.out _ _ hSn ?_
      clear hK K hS HBc hg_0 hg_1
      try simp only [List.getElem_toArray, List.getElem_cons_succ, List.getElem_cons_zero, Act.put, List.setIfInBounds_toArray, List.set_cons_zero, List.set_cons_succ]
      have hS := hSn
      have HBc := HBn
      have hg_0 := hgn_0
      have hg_1 := hgn_1
      clear hSn HBn hbn hgn_0 hgn_1
      obtain ⟨wc, rfl⟩ : ∃ x : World, x = wn := ⟨_, rfl⟩
      refine HT.take (i := 4) (oi := _) (v := ?_) rfl (by kernel_rfl) (by kernel_rfl) (by decide) (fun _ _ _ h => h) (Or.inl ⟨by rfl, ?_⟩) hS ?_
      rotate_left
      · intro wz
        go_simp
        try with_reducible rfl
      simp only [List.getElem_toArray, List.getElem_cons_succ, List.getElem_cons_zero, Act.put, List.setIfInBounds_toArray, List.set_cons_zero, List.set_cons_succ]
      refine HT.take (i := 5) (oi := _) (v := ?_) rfl (by kernel_rfl) (by kernel_rfl) (by decide) (fun _ _ _ h => h) (Or.inl ⟨by rfl, ?_⟩) hS ?_
      rotate_left
      · intro wz
        go_simp
        try with_reducible rfl
      simp only [List.getElem_toArray, List.getElem_cons_succ, List.getElem_cons_zero, Act.put, List.setIfInBounds_toArray, List.set_cons_zero, List.set_cons_succ]
      refine HT.take (i := 6) (oi := _) (v := ?_) rfl (by kernel_rfl) (by kernel_rfl) (by decide) (fun _ _ _ h => h) (Or.inl ⟨by rfl, ?_⟩) hS ?_
      rotate_left
      · intro wz
        go_simp
        try with_reducible rfl
      simp only [List.getElem_toArray, List.getElem_cons_succ, List.getElem_cons_zero, Act.put, List.setIfInBounds_toArray, List.set_cons_zero, List.set_cons_succ]
      refine HT.one (i := 7) (o := _) rfl (by kernel_rfl) (by decide) (by rfl) ?_
      intro K hK
      go_simp
      obtain ⟨wn, ga, hwn, hga9, hHA, hbn0, _⟩ := cell_new0 wc 24 #[.int .i64 0, .slice none 0 0]
      have hbn := hbn0.out
      have HGga : Hid (W.heap.size ≤ ga) := by show _ ≤ _; rw [hga9]; exact HBc.out.size
      have hne_g2_ga : g2 ≠ ga := by have := blk_lt HHR.out; omega
      rw [← hwn, ← hga9]
      have HA := hHA
      clear hwn hga9 hbn0 hHA
      replace HHR := Lib.hid ((hbn.block g2 (blk_lt HHR.out)).trans HHR.out)
      replace O2 := Lib.hid (O2.out.below hbn)
      have HBn := Lib.hid (HBc.out.trans (hbn.mono HBc.out.size))
      have hSn : wn.cell? ⟨gx, 0, none⟩ = some (.int .i64 r) ∧ wn.cell? ⟨gx, 1, none⟩ = some (.slice (some ad) n c) ∧ wn.cell? ⟨gx + 1, 0, none⟩ = some (.string S) ∧ wn.cell? ⟨gx + 1, 1, none⟩ = some (.string T) := ⟨(hbn.cell (p := ⟨gx, 0, none⟩) hg_0).trans hS.1, (hbn.cell (p := ⟨gx, 1, none⟩) hg_0).trans hS.2.1, (hbn.cell (p := ⟨gx + 1, 0, none⟩) hg_1).trans hS.2.2.1, (hbn.cell (p := ⟨gx + 1, 1, none⟩) hg_1).trans hS.2.2.2⟩
      have hgn_0 := Nat.lt_of_lt_of_le hg_0 hbn.size
      have hgn_1 := Nat.lt_of_lt_of_le hg_1 hbn.size
      refine hK.out _ _ hSn ?_
      clear hK K hS HBc hg_0 hg_1
      try simp only [List.getElem_toArray, List.getElem_cons_succ, List.getElem_cons_zero, Act.put, List.setIfInBounds_toArray, List.set_cons_zero, List.set_cons_succ]
      have hS := hSn
      have HBc := HBn
      have hg_0 := hgn_0
      have hg_1 := hgn_1
      clear hSn HBn hbn hgn_0 hgn_1
      obtain ⟨wc, rfl⟩ : ∃ x : World, x = wn := ⟨_, rfl⟩
      obtain ⟨hr0, hr1, hf0, hf1⟩ := two_cells HHR.out
      obtain ⟨ha0, ha1, hfa0, hfa1⟩ := two_cells HA.out
      have hla := blk_lt HA.out
      have hl2 := blk_lt HHR.out
      refine HT.done (by kernel_rfl) ?_
      clear hS
      simp only [List.drop_succ_cons, List.drop_zero]
      have hne1 : ¬ ga = g2 := by have := HGga.out; have := hgW2.out; omega
      have hne2 : ¬ g2 = ga := Ne.symm hne1
      obtain ⟨cnt, hcnt⟩ : ∃ cnt, stS (gnU q) 0 xss = cnt := ⟨_, rfl⟩
      have Hcnt := Lib.hid hcnt
      rw [hcnt]
      clear hcnt
      go_wp2_with fail
      have hga9 := HGga.out
      have hg29 := HG2.out
      have hw29 := hgW2.out
      have hbx9 := HBX.out.size
      have HB9 := HBX.out.trans (HBc.out.mono HBX.out.size)
      obtain ⟨rows, hL⟩ := O2.out
      simp only [List.length_map] at hL
      refine end_snd3 (o0 := .int .i64 0) (o1 := .slice none 0 0) rfl rfl rfl ?_ ?_ ?_
      · rw [World.cell?_setCell_other _ _ _ _ (by simp <;> omega), World.cell?_setCell_other _ _ _ _ (by simp <;> omega)]; exact hr0
      · rw [World.cell?_setCell_other _ _ _ _ (by simp <;> omega), World.cell?_setCell_other _ _ _ _ (by simp <;> omega)]; exact hr1
      · rw [Hcnt.out]
        exact ⟨_, rfl, ⟨rows, (((hL.set2_far HA.out (by decide) (by decide) _ _).set_below (p := ⟨g2, 0, none⟩) (by simp; omega) _).set_below (p := ⟨g2, 1, none⟩) (by simp; omega) _).base hbx9⟩, set2_below (set2_below HB9 (by omega)) hg29⟩
      -- HHR HA O2
    · intro K hK
      go_simp
      obtain ⟨wn, ga, hwn, hga9, hHA, hbn0, _⟩ := cell_new0 wc 24 #[.int .i64 0, .slice none 0 0]
      have hbn := hbn0.out
      have HGga : Hid (W.heap.size ≤ ga) := by show _ ≤ _; rw [hga9]; exact HBc.out.size
      have hne_g2_ga : g2 ≠ ga := by have := blk_lt HHR.out; omega
      rw [← hwn, ← hga9]
      have HA := hHA
      clear hwn hga9 hbn0 hHA
      replace HHR := Lib.hid ((hbn.block g2 (blk_lt HHR.out)).trans HHR.out)
      replace H1 := Lib.hid (H1.out.to hbn (Nat.le_refl _) hbn.size)
      have HBn := Lib.hid (HBc.out.trans (hbn.mono HBc.out.size))
      have hSn : wn.cell? ⟨gx, 0, none⟩ = some (.int .i64 r) ∧ wn.cell? ⟨gx, 1, none⟩ = some (.slice (some ad) n c) ∧ wn.cell? ⟨gx + 1, 0, none⟩ = some (.string S) ∧ wn.cell? ⟨gx + 1, 1, none⟩ = some (.string T) := ⟨(hbn.cell (p := ⟨gx, 0, none⟩) hg_0).trans hS.1, (hbn.cell (p := ⟨gx, 1, none⟩) hg_0).trans hS.2.1, (hbn.cell (p := ⟨gx + 1, 0, none⟩) hg_1).trans hS.2.2.1, (hbn.cell (p := ⟨gx + 1, 1, none⟩) hg_1).trans hS.2.2.2⟩
      have hgn_0 := Nat.lt_of_lt_of_le hg_0 hbn.size
      have hgn_1 := Nat.lt_of_lt_of_le hg_1 hbn.size
      refine hK.out _ _ hSn ?_
      clear hK K hS HBc hg_0 hg_1
      try simp only [List.getElem_toArray, List.getElem_cons_succ, List.getElem_cons_zero, Act.put, List.setIfInBounds_toArray, List.set_cons_zero, List.set_cons_succ]
      have hS := hSn
      have HBc := HBn
      have hg_0 := hgn_0
      have hg_1 := hgn_1
      clear hSn HBn hbn hgn_0 hgn_1
      obtain ⟨wc, rfl⟩ : ∃ x : World, x = wn := ⟨_, rfl⟩
      refine HT.one (i := 3) (o := _) rfl (by kernel_rfl) (by decide) (by rfl) ?_
      intro K hK
      go_simp
      have HRc := Lib.hid ((HRW.out.below HBc.out hBW).mono (Nat.le_trans hBW HBc.out.size))
      refine (STIMES_ok r ad n c xss hok ng1 A1 n1 c1 D1 m1 d1 q (by omega) (by omega) _ wc.heap.size (Nat.le_refl _) HRc H1).mono ?_
      rintro e wn ⟨v2, rfl, hO2, hbn⟩
      obtain ⟨A2, c2, rfl, _, _⟩ := hO2.form
      replace hO2 := hO2.base (show W.heap.size ≤ wc.heap.size from HBc.out.size)
      clear HRc
      have O2 := Lib.hid hO2
      clear hO2
      clear H1
      replace HHR := Lib.hid ((hbn.block g2 (blk_lt HHR.out)).trans HHR.out)
      replace HA := Lib.hid ((hbn.block ga (blk_lt HA.out)).trans HA.out)
      have HBn := Lib.hid (HBc.out.trans (hbn.mono HBc.out.size))
      have hSn : wn.cell? ⟨gx, 0, none⟩ = some (.int .i64 r) ∧ wn.cell? ⟨gx, 1, none⟩ = some (.slice (some ad) n c) ∧ wn.cell? ⟨gx + 1, 0, none⟩ = some (.string S) ∧ wn.cell? ⟨gx + 1, 1, none⟩ = some (.string T) := ⟨(hbn.cell (p := ⟨gx, 0, none⟩) hg_0).trans hS.1, (hbn.cell (p := ⟨gx, 1, none⟩) hg_0).trans hS.2.1, (hbn.cell (p := ⟨gx + 1, 0, none⟩) hg_1).trans hS.2.2.1, (hbn.cell (p := ⟨gx + 1, 1, none⟩) hg_1).trans hS.2.2.2⟩
      have hgn_0 := Nat.lt_of_lt_of_le hg_0 hbn.size
      have hgn_1 := Nat.lt_of_lt_of_le hg_1 hbn.size
      refine hK.out _ _ hSn ?_
      clear hK K hS HBc hg_0 hg_1
      try simp only [List.getElem_toArray, List.getElem_cons_succ, List.getElem_cons_zero, Act.put, List.setIfInBounds_toArray, List.set_cons_zero, List.set_cons_succ]
      have hS := hSn
      have HBc := HBn
      have hg_0 := hgn_0
      have hg_1 := hgn_1
      clear hSn HBn hbn hgn_0 hgn_1
      obtain ⟨wc, rfl⟩ : ∃ x : World, x = wn := ⟨_, rfl⟩
      refine HT.take (i := 4) (oi := _) (v := ?_) rfl (by kernel_rfl) (by kernel_rfl) (by decide) (fun _ _ _ h => h) (Or.inl ⟨by rfl, ?_⟩) hS ?_
      rotate_left
      · intro wz
        go_simp
        try with_reducible rfl
      simp only [List.getElem_toArray, List.getElem_cons_succ, List.getElem_cons_zero, Act.put, List.setIfInBounds_toArray, List.set_cons_zero, List.set_cons_succ]
      refine HT.take (i := 5) (oi := _) (v := ?_) rfl (by kernel_rfl) (by kernel_rfl) (by decide) (fun _ _ _ h => h) (Or.inl ⟨by rfl, ?_⟩) hS ?_
      rotate_left
      · intro wz
        go_simp
        try with_reducible rfl
      simp only [List.getElem_toArray, List.getElem_cons_succ, List.getElem_cons_zero, Act.put, List.setIfInBounds_toArray, List.set_cons_zero, List.set_cons_succ]
      refine HT.take (i := 6) (oi := _) (v := ?_) rfl (by kernel_rfl) (by kernel_rfl) (by decide) (fun _ _ _ h => h) (Or.inl ⟨by rfl, ?_⟩) hS ?_
      rotate_left
      · intro wz
        go_simp
        try with_reducible rfl
      simp only [List.getElem_toArray, List.getElem_cons_succ, List.getElem_cons_zero, Act.put, List.setIfInBounds_toArray, List.set_cons_zero, List.set_cons_succ]
      obtain ⟨hr0, hr1, hf0, hf1⟩ := two_cells HHR.out
      obtain ⟨ha0, ha1, hfa0, hfa1⟩ := two_cells HA.out
      have hla := blk_lt HA.out
      have hl2 := blk_lt HHR.out
      refine HT.done (by kernel_rfl) ?_
      clear hS
      simp only [List.drop_succ_cons, List.drop_zero]
      have hne1 : ¬ ga = g2 := by have := HGga.out; have := hgW2.out; omega
      have hne2 : ¬ g2 = ga := Ne.symm hne1
      obtain ⟨cnt, hcnt⟩ : ∃ cnt, stS (gnU q) 0 xss = cnt := ⟨_, rfl⟩
      have Hcnt := Lib.hid hcnt
      rw [hcnt]
      clear hcnt
      go_wp2_with fail
      have hga9 := HGga.out
      have hg29 := HG2.out
      have hw29 := hgW2.out
      have hbx9 := HBX.out.size
      have HB9 := HBX.out.trans (HBc.out.mono HBX.out.size)
      obtain ⟨rows, hL⟩ := O2.out
      simp only [List.length_map] at hL
      refine end_snd3 (o0 := .int .i64 0) (o1 := .slice none 0 0) rfl rfl rfl ?_ ?_ ?_
      · rw [World.cell?_setCell_other _ _ _ _ (by simp <;> omega), World.cell?_setCell_other _ _ _ _ (by simp <;> omega)]; exact hr0
      · rw [World.cell?_setCell_other _ _ _ _ (by simp <;> omega), World.cell?_setCell_other _ _ _ _ (by simp <;> omega)]; exact hr1
      · rw [Hcnt.out]
        exact ⟨_, rfl, ⟨rows, (((hL.set2_far HA.out (by decide) (by decide) _ _).set_below (p := ⟨g2, 0, none⟩) (by simp; omega) _).set_below (p := ⟨g2, 1, none⟩) (by simp; omega) _).base hbx9⟩, set2_below (set2_below HB9 (by omega)) hg29⟩
      -- HHR HA O2
  · intro K hK
    go_simp
    obtain ⟨wn, ga, hwn, hga9, hHA, hbn0, _⟩ := cell_new0 wc 24 #[.int .i64 0, .slice none 0 0]
    have hbn := hbn0.out
    have HGga : Hid (W.heap.size ≤ ga) := by show _ ≤ _; rw [hga9]; exact HBc.out.size
    have hne_g2_ga : g2 ≠ ga := by have := blk_lt HHR.out; omega
    rw [← hwn, ← hga9]
    have HA := hHA
    clear hwn hga9 hbn0 hHA
    replace HHR := Lib.hid ((hbn.block g2 (blk_lt HHR.out)).trans HHR.out)
    have HBn := Lib.hid (HBc.out.trans (hbn.mono HBc.out.size))
    have hSn : wn.cell? ⟨gx, 0, none⟩ = some (.int .i64 r) ∧ wn.cell? ⟨gx, 1, none⟩ = some (.slice (some ad) n c) ∧ wn.cell? ⟨gx + 1, 0, none⟩ = some (.string S) ∧ wn.cell? ⟨gx + 1, 1, none⟩ = some (.string T) := ⟨(hbn.cell (p := ⟨gx, 0, none⟩) hg_0).trans hS.1, (hbn.cell (p := ⟨gx, 1, none⟩) hg_0).trans hS.2.1, (hbn.cell (p := ⟨gx + 1, 0, none⟩) hg_1).trans hS.2.2.1, (hbn.cell (p := ⟨gx + 1, 1, none⟩) hg_1).trans hS.2.2.2⟩
    have hgn_0 := Nat.lt_of_lt_of_le hg_0 hbn.size
    have hgn_1 := Nat.lt_of_lt_of_le hg_1 hbn.size
    refine hK.out _ _ hSn ?_
    clear hK K hS HBc hg_0 hg_1
    try simp only [List.getElem_toArray, List.getElem_cons_succ, List.getElem_cons_zero, Act.put, List.setIfInBounds_toArray, List.set_cons_zero, List.set_cons_succ]
    have hS := hSn
    have HBc := HBn
    have hg_0 := hgn_0
    have hg_1 := hgn_1
    clear hSn HBn hbn hgn_0 hgn_1
    obtain ⟨wc, rfl⟩ : ∃ x : World, x = wn := ⟨_, rfl⟩
    refine HT.one (i := 2) (o := _) rfl (by kernel_rfl) (by decide) (by rfl) ?_
    intro K hK
    go_simp
    refine (FROM_ok HRT.out _).mono ?_
    rintro e wn ⟨ng1, A1, n1, c1, D1, m1, d1, rfl, hH1, k1, l1, hbn⟩
    have H1 := Lib.hid hH1
    clear hH1
    replace HHR := Lib.hid ((hbn.block g2 (blk_lt HHR.out)).trans HHR.out)
    replace HA := Lib.hid ((hbn.block ga (blk_lt HA.out)).trans HA.out)
    have HBn := Lib.hid (HBc.out.trans (hbn.mono HBc.out.size))
    have hSn : wn.cell? ⟨gx, 0, none⟩ = some (.int .i64 r) ∧ wn.cell? ⟨gx, 1, none⟩ = some (.slice (some ad) n c) ∧ wn.cell? ⟨gx + 1, 0, none⟩ = some (.string S) ∧ wn.cell? ⟨gx + 1, 1, none⟩ = some (.string T) := ⟨(hbn.cell (p := ⟨gx, 0, none⟩) hg_0).trans hS.1, (hbn.cell (p := ⟨gx, 1, none⟩) hg_0).trans hS.2.1, (hbn.cell (p := ⟨gx + 1, 0, none⟩) hg_1).trans hS.2.2.1, (hbn.cell (p := ⟨gx + 1, 1, none⟩) hg_1).trans hS.2.2.2⟩
    have hgn_0 := Nat.lt_of_lt_of_le hg_0 hbn.size
    have hgn_1 := Nat.lt_of_lt_of_le hg_1 hbn.size
    refine hK.out _ _ hSn ?_
    clear hK K hS HBc hg_0 hg_1
    try simp only [List.getElem_toArray, List.getElem_cons_succ, List.getElem_cons_zero, Act.put, List.setIfInBounds_toArray, List.set_cons_zero, List.set_cons_succ]
    have hS := hSn
    have HBc := HBn
    have hg_0 := hgn_0
    have hg_1 := hgn_1
    clear hSn HBn hbn hgn_0 hgn_1
    obtain ⟨wc, rfl⟩ : ∃ x : World, x = wn := ⟨_, rfl⟩
    refine HT.one (i := 3) (o := _) rfl (by kernel_rfl) (by decide) (by rfl) ?_
    intro K hK
    go_simp
    have HRc := Lib.hid ((HRW.out.below HBc.out hBW).mono (Nat.le_trans hBW HBc.out.size))
    refine (STIMES_ok r ad n c xss hok ng1 A1 n1 c1 D1 m1 d1 q (by omega) (by omega) _ wc.heap.size (Nat.le_refl _) HRc H1).mono ?_
    rintro e wn ⟨v2, rfl, hO2, hbn⟩
    obtain ⟨A2, c2, rfl, _, _⟩ := hO2.form
    replace hO2 := hO2.base (show W.heap.size ≤ wc.heap.size from HBc.out.size)
    clear HRc
    have O2 := Lib.hid hO2
    clear hO2
    clear H1
    replace HHR := Lib.hid ((hbn.block g2 (blk_lt HHR.out)).trans HHR.out)
    replace HA := Lib.hid ((hbn.block ga (blk_lt HA.out)).trans HA.out)
    have HBn := Lib.hid (HBc.out.trans (hbn.mono HBc.out.size))
    have hSn : wn.cell? ⟨gx, 0, none⟩ = some (.int .i64 r) ∧ wn.cell? ⟨gx, 1, none⟩ = some (.slice (some ad) n c) ∧ wn.cell? ⟨gx + 1, 0, none⟩ = some (.string S) ∧ wn.cell? ⟨gx + 1, 1, none⟩ = some (.string T) := ⟨(hbn.cell (p := ⟨gx, 0, none⟩) hg_0).trans hS.1, (hbn.cell (p := ⟨gx, 1, none⟩) hg_0).trans hS.2.1, (hbn.cell (p := ⟨gx + 1, 0, none⟩) hg_1).trans hS.2.2.1, (hbn.cell (p := ⟨gx + 1, 1, none⟩) hg_1).trans hS.2.2.2⟩
    have hgn_0 := Nat.lt_of_lt_of_le hg_0 hbn.size
    have hgn_1 := Nat.lt_of_lt_of_le hg_1 hbn.size
    refine hK.out _ _ hSn ?_
    clear hK K hS HBc hg_0 hg_1
    try simp only [List.getElem_toArray, List.getElem_cons_succ, List.getElem_cons_zero, Act.put, List.setIfInBounds_toArray, List.set_cons_zero, List.set_cons_succ]
    have hS := hSn
    have HBc := HBn
    have hg_0 := hgn_0
    have hg_1 := hgn_1
    clear hSn HBn hbn hgn_0 hgn_1
    obtain ⟨wc, rfl⟩ : ∃ x : World, x = wn := ⟨_, rfl⟩
    refine HT.take (i := 4) (oi := _) (v := ?_) rfl (by kernel_rfl) (by kernel_rfl) (by decide) (fun _ _ _ h => h) (Or.inl ⟨by rfl, ?_⟩) hS ?_
    rotate_left
    · intro wz
      go_simp
      try with_reducible rfl
    simp only [List.getElem_toArray, List.getElem_cons_succ, List.getElem_cons_zero, Act.put, List.setIfInBounds_toArray, List.set_cons_zero, List.set_cons_succ]
    refine HT.take (i := 5) (oi := _) (v := ?_) rfl (by kernel_rfl) (by kernel_rfl) (by decide) (fun _ _ _ h => h) (Or.inl ⟨by rfl, ?_⟩) hS ?_
    rotate_left
    · intro wz
      go_simp
      try with_reducible rfl
    simp only [List.getElem_toArray, List.getElem_cons_succ, List.getElem_cons_zero, Act.put, List.setIfInBounds_toArray, List.set_cons_zero, List.set_cons_succ]
    refine HT.take (i := 6) (oi := _) (v := ?_) rfl (by kernel_rfl) (by kernel_rfl) (by decide) (fun _ _ _ h => h) (Or.inl ⟨by rfl, ?_⟩) hS ?_
    rotate_left
    · intro wz
      go_simp
      try with_reducible rfl
    simp only [List.getElem_toArray, List.getElem_cons_succ, List.getElem_cons_zero, Act.put, List.setIfInBounds_toArray, List.set_cons_zero, List.set_cons_succ]
    obtain ⟨hr0, hr1, hf0, hf1⟩ := two_cells HHR.out
    obtain ⟨ha0, ha1, hfa0, hfa1⟩ := two_cells HA.out
    have hla := blk_lt HA.out
    have hl2 := blk_lt HHR.out
    refine HT.done (by kernel_rfl) ?_
    clear hS
    simp only [List.drop_succ_cons, List.drop_zero]
    have hne1 : ¬ ga = g2 := by have := HGga.out; have := hgW2.out; omega
    have hne2 : ¬ g2 = ga := Ne.symm hne1
    obtain ⟨cnt, hcnt⟩ : ∃ cnt, stS (gnU q) 0 xss = cnt := ⟨_, rfl⟩
    have Hcnt := Lib.hid hcnt
    rw [hcnt]
    clear hcnt
    go_wp2_with fail
    have hga9 := HGga.out
    have hg29 := HG2.out
    have hw29 := hgW2.out
    have hbx9 := HBX.out.size
    have HB9 := HBX.out.trans (HBc.out.mono HBX.out.size)
    obtain ⟨rows, hL⟩ := O2.out
    simp only [List.length_map] at hL
    refine end_snd3 (o0 := .int .i64 0) (o1 := .slice none 0 0) rfl rfl rfl ?_ ?_ ?_
    · rw [World.cell?_setCell_other _ _ _ _ (by simp <;> omega), World.cell?_setCell_other _ _ _ _ (by simp <;> omega)]; exact hr0
    · rw [World.cell?_setCell_other _ _ _ _ (by simp <;> omega), World.cell?_setCell_other _ _ _ _ (by simp <;> omega)]; exact hr1
    · rw [Hcnt.out]
      exact ⟨_, rfl, ⟨rows, (((hL.set2_far HA.out (by decide) (by decide) _ _).set_below (p := ⟨g2, 0, none⟩) (by simp; omega) _).set_below (p := ⟨g2, 1, none⟩) (by simp; omega) _).base hbx9⟩, set2_below (set2_below HB9 (by omega)) hg29⟩
    -- HHR HA O2
theorem GAIN_any (r : Int) (A : Option Addr) (n c : Nat) (S T : ByteArray) (hs : S.size ≤ maxLen) (ht : T.size ≤ maxLen) (xss : List (List Int)) (w : World)  (B : Nat) (hB : B ≤ w.heap.size) (hh : RowsAt w B A n xss) :
    Calls Tryz.prog 6 #[.agg #[.int .i64 r, .slice A n c], .agg #[.string S, .string T]] w (OutS3 w (gainS r xss S T).1 (gainS r xss S T).2.1 (gainS r xss S T).2.2.1 (gainS r xss S T).2.2.2) := by
  unfold gainS
  by_cases hc : chkS r xss = 0
  · have hok := chkS_ok hc
    have hn : 0 < n := by have := hok.some; have := hh.1; omega
    obtain ⟨ad, rfl⟩ := hh.addr hn
    rw [if_neg (by simp [hc])]
    by_cases hd : chkQ S T = 0
    · rw [if_neg (by simp [hd])]
      exact GAIN_ok r ad n c S T (valQ S T) (Rt.of hd) xss hok hc w  B hB hh
    · rw [if_pos hd]; exact GAIN_bad r (some ad) n c S T hs ht xss hc hd w B hB hh
  · rw [if_pos hc]; exact GAIN_chk r A n c S T xss hc w B hB hh
end Go.Proofs.YtnhmhjhfoonakaaGreatDoor

/- Normal, the sound's. -/
set_option linter.unusedSimpArgs false
set_option linter.unusedVariables false
namespace Go.Proofs.YtnhmhjhfoonakaaGreatDoor
open Go.RowKit Go.Dw
attribute [local go_sem ↓] Go.wp_at_zero Go.wp_at_succ
/-- what Normal returns -/
structure NoR where
  rate : Int
  rows : List (List Int)
  num : ByteArray
  den : ByteArray
  flt : Int
def normS (r : Int) (xss : List (List Int)) (want : Int) : NoR :=
  if chkS r xss ≠ 0 then ⟨0, [], noB, noB, chkS r xss⟩ else if want < 1 ∨ 8388607 < want then ⟨0, [], noB, noB, 1⟩ else if pkS 0 xss = 0 then ⟨0, [], noB, noB, 13⟩
  else ⟨r, xss.map (List.map (gnV ((want : Rat) / pkS 0 xss))), txN ((want : Rat) / pkS 0 xss), txD ((want : Rat) / pkS 0 xss), 0⟩
def OutNo (w : World) (p : NoR) (e : Ending) (w' : World) : Prop :=
  ∃ v, e = .returned (.tuple #[.agg #[.int .i64 p.rate, v], .agg #[.string p.num, .string p.den], .int .i64 p.flt]) ∧ OwnRows w' w.heap.size v p.rows ∧ Below w.heap.size w w'
theorem norm_set {w0 : World} {g g' : Nat} {o0 o1 p0 p1 v0 v1 s0 s1 : Value} (h : w0.heap[g]? = some (.cells #[o0, o1] 24 (0, 0))) (h' : w0.heap[g']? = some (.cells #[p0, p1] 26 (0, 0))) (hne : ¬ g = g') :
    ((((w0.setCell ⟨g, 0, none⟩ v0).setCell ⟨g, 1, none⟩ v1).setCell ⟨g', 0, none⟩ s0).setCell ⟨g', 1, none⟩ s1).heap[g]? = some (.cells #[v0, v1] 24 (0, 0)) ∧
    ((((w0.setCell ⟨g, 0, none⟩ v0).setCell ⟨g, 1, none⟩ v1).setCell ⟨g', 0, none⟩ s0).setCell ⟨g', 1, none⟩ s1).heap[g']? = some (.cells #[s0, s1] 26 (0, 0)) := by
  constructor
  · rw [Below.heap_setCell _ _ _ _ (by simpa using hne), Below.heap_setCell _ _ _ _ (by simpa using hne)]
    exact heap_set2 h
  · refine heap_set2 (o0 := p0) (o1 := p1) ?_
    rw [Below.heap_setCell _ _ _ _ (by simpa using fun e => hne e.symm), Below.heap_setCell _ _ _ _ (by simpa using fun e => hne e.symm)]
    exact h'
theorem fin_norm {fn : Func} {R : Ending → World → Prop} {a : Act} {w : World} {p u x : Tmp} {g g' : Nat} {v0 v1 s0 s1 : Value} (h : fn.results = #[.cell p 24, .cell u 26, .tmp x]) (hp : a.tmps.getD p undef = .pointer (some ⟨g, 0, none⟩)) (hu : a.tmps.getD u undef = .pointer (some ⟨g', 0, none⟩)) (hd : a.defers = [])
    (hg : w.heap[g]? = some (.cells #[v0, v1] 24 (0, 0))) (hg' : w.heap[g']? = some (.cells #[s0, s1] 26 (0, 0)))
    (hR : R (.returned (.tuple #[.agg #[v0, v1], .agg #[s0, s1], a.tmps.getD x undef])) w) : bodyPost Tryz.prog fn R .ret a w := by
  obtain ⟨c0, c1, _, _⟩ := two_cells hg
  obtain ⟨d0, d1, _, _⟩ := two_cells hg'
  refine bodyPost_ret ?_ hd hR
  have hp' : a.tmps[p]?.getD undef = .pointer (some ⟨g, 0, none⟩) := by simpa using hp
  have hu' : a.tmps[u]?.getD undef = .pointer (some ⟨g', 0, none⟩) := by simpa using hu
  have h1 := load_snd w g v0 v1 c0 c1
  have h2 : (loadVar 26 ⟨g', 0, none⟩).run Tryz.prog w = .ok (.agg #[s0, s1]) w := by simp [loadVar, go_sem, d0, d1]
  simp [results, h, hp', hu', asAddr, h1, h2]
theorem fin_norm_drew {fn : Func} {R : Ending → World → Prop} {a : Act} {w : World} {p u x : Tmp} {g g' : Nat} {v0 v1 s0 s1 : Value} (h : fn.results = #[.cell p 24, .cell u 26, .tmp x]) (hp : a.tmps.getD p undef = .pointer (some ⟨g, 0, none⟩)) (hu : a.tmps.getD u undef = .pointer (some ⟨g', 0, none⟩)) (hd : a.defers = [])
    (hg : w.heap[g]? = some (.cells #[v0, v1] 24 (0, 0))) (hg' : w.heap[g']? = some (.cells #[s0, s1] 26 (0, 0)))
    (hR : R (.returned (.tuple #[.agg #[v0, v1], .agg #[s0, s1], a.tmps.getD x undef])) w.drew) : bodyPost Tryz.prog fn R .ret a w.drew := fin_norm h hp hu hd hg hg' hR
set_option maxHeartbeats 800000 in
theorem NORMAL_chk (r : Int) (A : Option Addr) (n c : Nat) (want : Int) (xss : List (List Int)) (hc : chkS r xss ≠ 0) (w : World) (B : Nat) (hB : B ≤ w.heap.size) (hh : Hid (RowsAt w B A n xss)) :
    Calls Tryz.prog 12 #[.agg #[.int .i64 r, .slice A n c], .int .i64 want] w (OutNo w ⟨0, [], noB, noB, chkS r xss⟩) := by
  have hq : (chkS r xss != 0) = true := by simpa using hc
  clear hc
  obtain ⟨W, gx, hW, hgx, HHW, HBX, HSW⟩ := boxes3 w (.cells #[.int .i64 r, .slice (A) n c] 24) (.cells #[.int .i64 0, .slice none 0 0] 24) (.cells #[.string ⟨#[]⟩, .string ⟨#[]⟩] 26)
  have HGX := Lib.hid hgx
  obtain ⟨g2, hg2⟩ : ∃ g, g = gx + 1 := ⟨_, rfl⟩
  obtain ⟨g3, hg3⟩ : ∃ g, g = gx + 1 + 1 := ⟨_, rfl⟩
  have HX : Hid (W.heap[gx]? = some (.cells #[.int .i64 r, .slice (A) n c] 24 (0, 0))) := HHW.out.1
  have HHR : Hid (W.heap[g2]? = some (.cells #[.int .i64 0, .slice none 0 0] 24 (0, 0))) := by rw [hg2]; exact HHW.out.2.1
  have HRR : Hid (W.heap[g3]? = some (.cells #[.string ⟨#[]⟩, .string ⟨#[]⟩] 26 (0, 0))) := by rw [hg3]; exact HHW.out.2.2
  have HG2 : Hid (w.heap.size ≤ g2 ∧ w.heap.size ≤ g3) := ⟨by have := hgx; omega, by have := hgx; omega⟩
  have hne1 : ¬ g2 = g3 := by omega
  have hne2 : ¬ g3 = g2 := by omega
  go_enter Tryz.func12, Tryz.ntmps12
  go_upto_region 1 with (fail)
  rw [← hW, ← hgx, ← hg3, ← hg2]
  clear hW hgx hg2 hg3 HHW HSW
  obtain ⟨x0, x1, _, _⟩ := two_cells HX.out
  go_wp2_with fail
  refine (CHECK_any r (A) n c xss _ B (Nat.le_trans hB HBX.out.size) (hh.out.below HBX.out hB)).mono ?_
  rintro e w1 ⟨rfl, hb⟩
  replace HX := Lib.hid ((hb.block gx (blk_lt HX.out)).trans HX.out)
  replace HHR := Lib.hid ((hb.block g2 (blk_lt HHR.out)).trans HHR.out)
  replace HRR := Lib.hid ((hb.block g3 (blk_lt HRR.out)).trans HRR.out)
  replace HBX := Lib.hid (HBX.out.trans (hb.mono HBX.out.size))
  clear hb x0 x1
  obtain ⟨hr0, hr1, hf0, hf1⟩ := two_cells HHR.out
  obtain ⟨hs0, hs1, hk0, hk1⟩ := two_cells HRR.out
  have hl2 := blk_lt HHR.out
  have hl3 := blk_lt HRR.out
  go_wp2_with fail
  (try go_region)
  (try go_wp2_with fail)
  exact fin_norm rfl rfl rfl rfl (norm_set HHR.out HRR.out hne1).1 (norm_set HHR.out HRR.out hne1).2 ⟨_, rfl, OwnRows.nil _ _, set2_below' (set2_below' HBX.out HG2.out.1) HG2.out.2⟩
set_option maxHeartbeats 800000 in
theorem NORMAL_bad (r : Int) (A : Option Addr) (n c : Nat) (want : Int) (xss : List (List Int)) (hc : Hid (chkS r xss = 0)) (hb0 : want < 1 ∨ 8388607 < want) (w : World) (B : Nat) (hB : B ≤ w.heap.size) (hh : Hid (RowsAt w B A n xss)) :
    Calls Tryz.prog 12 #[.agg #[.int .i64 r, .slice A n c], .int .i64 want] w (OutNo w ⟨0, [], noB, noB, 1⟩) := by
  have hq : (chkS r xss != 0) = false := by rw [hc.out]; rfl
  by_cases h1 : want < 1
  · have d1 : decide (want < 1) = true := by simpa using h1
    clear h1 hb0
    obtain ⟨W, gx, hW, hgx, HHW, HBX, HSW⟩ := boxes3 w (.cells #[.int .i64 r, .slice (A) n c] 24) (.cells #[.int .i64 0, .slice none 0 0] 24) (.cells #[.string ⟨#[]⟩, .string ⟨#[]⟩] 26)
    have HGX := Lib.hid hgx
    obtain ⟨g2, hg2⟩ : ∃ g, g = gx + 1 := ⟨_, rfl⟩
    obtain ⟨g3, hg3⟩ : ∃ g, g = gx + 1 + 1 := ⟨_, rfl⟩
    have HX : Hid (W.heap[gx]? = some (.cells #[.int .i64 r, .slice (A) n c] 24 (0, 0))) := HHW.out.1
    have HHR : Hid (W.heap[g2]? = some (.cells #[.int .i64 0, .slice none 0 0] 24 (0, 0))) := by rw [hg2]; exact HHW.out.2.1
    have HRR : Hid (W.heap[g3]? = some (.cells #[.string ⟨#[]⟩, .string ⟨#[]⟩] 26 (0, 0))) := by rw [hg3]; exact HHW.out.2.2
    have HG2 : Hid (w.heap.size ≤ g2 ∧ w.heap.size ≤ g3) := ⟨by have := hgx; omega, by have := hgx; omega⟩
    have hne1 : ¬ g2 = g3 := by omega
    have hne2 : ¬ g3 = g2 := by omega
    go_enter Tryz.func12, Tryz.ntmps12
    go_upto_region 1 with (fail)
    rw [← hW, ← hgx, ← hg3, ← hg2]
    clear hW hgx hg2 hg3 HHW HSW
    obtain ⟨x0, x1, _, _⟩ := two_cells HX.out
    go_wp2_with fail
    refine (CHECK_any r (A) n c xss _ B (Nat.le_trans hB HBX.out.size) (hh.out.below HBX.out hB)).mono ?_
    rintro e w1 ⟨rfl, hb⟩
    replace HX := Lib.hid ((hb.block gx (blk_lt HX.out)).trans HX.out)
    replace HHR := Lib.hid ((hb.block g2 (blk_lt HHR.out)).trans HHR.out)
    replace HRR := Lib.hid ((hb.block g3 (blk_lt HRR.out)).trans HRR.out)
    replace HBX := Lib.hid (HBX.out.trans (hb.mono HBX.out.size))
    clear hb x0 x1
    obtain ⟨hr0, hr1, hf0, hf1⟩ := two_cells HHR.out
    obtain ⟨hs0, hs1, hk0, hk1⟩ := two_cells HRR.out
    have hl2 := blk_lt HHR.out
    have hl3 := blk_lt HRR.out
    go_wp2_with fail
    (try go_region)
    (try go_wp2_with fail)
    exact fin_norm rfl rfl rfl rfl (norm_set HHR.out HRR.out hne1).1 (norm_set HHR.out HRR.out hne1).2 ⟨_, rfl, OwnRows.nil _ _, set2_below' (set2_below' HBX.out HG2.out.1) HG2.out.2⟩
  · have d1 : decide (want < 1) = false := by simpa using h1
    have d2 : decide (8388607 < want) = true := by simp; omega
    clear h1 hb0
    obtain ⟨W, gx, hW, hgx, HHW, HBX, HSW⟩ := boxes3 w (.cells #[.int .i64 r, .slice (A) n c] 24) (.cells #[.int .i64 0, .slice none 0 0] 24) (.cells #[.string ⟨#[]⟩, .string ⟨#[]⟩] 26)
    have HGX := Lib.hid hgx
    obtain ⟨g2, hg2⟩ : ∃ g, g = gx + 1 := ⟨_, rfl⟩
    obtain ⟨g3, hg3⟩ : ∃ g, g = gx + 1 + 1 := ⟨_, rfl⟩
    have HX : Hid (W.heap[gx]? = some (.cells #[.int .i64 r, .slice (A) n c] 24 (0, 0))) := HHW.out.1
    have HHR : Hid (W.heap[g2]? = some (.cells #[.int .i64 0, .slice none 0 0] 24 (0, 0))) := by rw [hg2]; exact HHW.out.2.1
    have HRR : Hid (W.heap[g3]? = some (.cells #[.string ⟨#[]⟩, .string ⟨#[]⟩] 26 (0, 0))) := by rw [hg3]; exact HHW.out.2.2
    have HG2 : Hid (w.heap.size ≤ g2 ∧ w.heap.size ≤ g3) := ⟨by have := hgx; omega, by have := hgx; omega⟩
    have hne1 : ¬ g2 = g3 := by omega
    have hne2 : ¬ g3 = g2 := by omega
    go_enter Tryz.func12, Tryz.ntmps12
    go_upto_region 1 with (fail)
    rw [← hW, ← hgx, ← hg3, ← hg2]
    clear hW hgx hg2 hg3 HHW HSW
    obtain ⟨x0, x1, _, _⟩ := two_cells HX.out
    go_wp2_with fail
    refine (CHECK_any r (A) n c xss _ B (Nat.le_trans hB HBX.out.size) (hh.out.below HBX.out hB)).mono ?_
    rintro e w1 ⟨rfl, hb⟩
    replace HX := Lib.hid ((hb.block gx (blk_lt HX.out)).trans HX.out)
    replace HHR := Lib.hid ((hb.block g2 (blk_lt HHR.out)).trans HHR.out)
    replace HRR := Lib.hid ((hb.block g3 (blk_lt HRR.out)).trans HRR.out)
    replace HBX := Lib.hid (HBX.out.trans (hb.mono HBX.out.size))
    clear hb x0 x1
    obtain ⟨hr0, hr1, hf0, hf1⟩ := two_cells HHR.out
    obtain ⟨hs0, hs1, hk0, hk1⟩ := two_cells HRR.out
    have hl2 := blk_lt HHR.out
    have hl3 := blk_lt HRR.out
    go_wp2_with fail
    (try go_region)
    (try go_wp2_with fail)
    exact fin_norm rfl rfl rfl rfl (norm_set HHR.out HRR.out hne1).1 (norm_set HHR.out HRR.out hne1).2 ⟨_, rfl, OwnRows.nil _ _, set2_below' (set2_below' HBX.out HG2.out.1) HG2.out.2⟩
set_option maxHeartbeats 1600000 in
theorem NORMAL_nil (r : Int) (ad : Addr) (n c : Nat) (want : Int) (xss : List (List Int)) (hn : 0 < n) (hc : Hid (chkS r xss = 0)) (hok : Hid (OkS r xss)) (hw1 : 1 ≤ want) (hw2 : want ≤ 8388607) (hp : pkS 0 xss = 0) (w : World) (B : Nat) (hB : B ≤ w.heap.size) (hh : Hid (RowsAt w B (some ad) n xss)) :
    Calls Tryz.prog 12 #[.agg #[.int .i64 r, .slice (some ad) n c], .int .i64 want] w (OutNo w ⟨0, [], noB, noB, 13⟩) := by
  have hq : (chkS r xss != 0) = false := by rw [hc.out]; rfl
  have d1 : decide (want < 1) = false := by simp; omega
  have d2 : decide (8388607 < want) = false := by simp; omega
  obtain ⟨W, gx, hW, hgx, HHW, HBX, HSW⟩ := boxes3 w (.cells #[.int .i64 r, .slice (some ad) n c] 24) (.cells #[.int .i64 0, .slice none 0 0] 24) (.cells #[.string ⟨#[]⟩, .string ⟨#[]⟩] 26)
  have HGX := Lib.hid hgx
  obtain ⟨g2, hg2⟩ : ∃ g, g = gx + 1 := ⟨_, rfl⟩
  obtain ⟨g3, hg3⟩ : ∃ g, g = gx + 1 + 1 := ⟨_, rfl⟩
  have HX : Hid (W.heap[gx]? = some (.cells #[.int .i64 r, .slice (some ad) n c] 24 (0, 0))) := HHW.out.1
  have HHR : Hid (W.heap[g2]? = some (.cells #[.int .i64 0, .slice none 0 0] 24 (0, 0))) := by rw [hg2]; exact HHW.out.2.1
  have HRR : Hid (W.heap[g3]? = some (.cells #[.string ⟨#[]⟩, .string ⟨#[]⟩] 26 (0, 0))) := by rw [hg3]; exact HHW.out.2.2
  have HG2 : Hid (w.heap.size ≤ g2 ∧ w.heap.size ≤ g3) := ⟨by have := hgx; omega, by have := hgx; omega⟩
  have hne1 : ¬ g2 = g3 := by omega
  have hne2 : ¬ g3 = g2 := by omega
  go_enter Tryz.func12, Tryz.ntmps12
  go_upto_region 1 with (fail)
  rw [← hW, ← hgx, ← hg3, ← hg2]
  clear hW hgx hg2 hg3 HHW HSW
  obtain ⟨x0, x1, _, _⟩ := two_cells HX.out
  go_wp2_with fail
  refine (CHECK_any r (some ad) n c xss _ B (Nat.le_trans hB HBX.out.size) (hh.out.below HBX.out hB)).mono ?_
  rintro e w1 ⟨rfl, hb⟩
  replace HX := Lib.hid ((hb.block gx (blk_lt HX.out)).trans HX.out)
  replace HHR := Lib.hid ((hb.block g2 (blk_lt HHR.out)).trans HHR.out)
  replace HRR := Lib.hid ((hb.block g3 (blk_lt HRR.out)).trans HRR.out)
  replace HBX := Lib.hid (HBX.out.trans (hb.mono HBX.out.size))
  clear hb x0 x1
  obtain ⟨x0, x1, _, _⟩ := two_cells HX.out
  go_wp2_with fail
  refine (PEAKU_ok r ad n c xss hn hok _ B (Nat.le_trans hB HBX.out.size) (hh.out.below HBX.out hB)).mono ?_
  rintro e w2 ⟨rfl, hb⟩
  replace HX := Lib.hid ((hb.block gx (blk_lt HX.out)).trans HX.out)
  replace HHR := Lib.hid ((hb.block g2 (blk_lt HHR.out)).trans HHR.out)
  replace HRR := Lib.hid ((hb.block g3 (blk_lt HRR.out)).trans HRR.out)
  replace HBX := Lib.hid (HBX.out.trans (hb.mono HBX.out.size))
  clear hb x0 x1
  rw [hp]
  clear hp
  obtain ⟨hr0, hr1, hf0, hf1⟩ := two_cells HHR.out
  obtain ⟨hs0, hs1, hk0, hk1⟩ := two_cells HRR.out
  have hl2 := blk_lt HHR.out
  have hl3 := blk_lt HRR.out
  go_wp2_with fail
  (try go_region)
  (try go_wp2_with fail)
  exact fin_norm rfl rfl rfl rfl (norm_set HHR.out HRR.out hne1).1 (norm_set HHR.out HRR.out hne1).2 ⟨_, rfl, OwnRows.nil _ _, set2_below' (set2_below' HBX.out HG2.out.1) HG2.out.2⟩
set_option maxRecDepth 100000 in
set_option maxHeartbeats 400000 in
theorem NORMAL_ok (r : Int) (ad : Addr) (n c : Nat) (want : Int) (xss : List (List Int)) (hn : 0 < n) (hc : Hid (chkS r xss = 0)) (hok : Hid (OkS r xss)) (hw1 : 1 ≤ want) (hw2 : want ≤ 8388607) (hp : pkS 0 xss ≠ 0) (w : World) (B : Nat) (hB : B ≤ w.heap.size) (hh : Hid (RowsAt w B (some ad) n xss)) :
    Calls Tryz.prog 12 #[.agg #[.int .i64 r, .slice (some ad) n c], .int .i64 want] w (OutNo w ⟨r, xss.map (List.map (gnV ((want : Rat) / pkS 0 xss))), txN ((want : Rat) / pkS 0 xss), txD ((want : Rat) / pkS 0 xss), 0⟩) := by
  have hpb := pkS_bd (xss := xss) (m := 0) (by omega) (by omega) hok.out.smp
  obtain ⟨pk, hpk⟩ : ∃ pk, pkS 0 xss = pk := ⟨_, rfl⟩
  have HPK := Lib.hid hpk
  rw [hpk] at hp hpb ⊢
  clear hpk
  obtain ⟨p1, p2⟩ := hpb
  have hp0 : (pk == 0) = false := by simpa using hp
  obtain ⟨q, hq9⟩ : ∃ q, (want : Rat) / pk = q := ⟨_, rfl⟩
  have HQV : Hid (ratioS want pk = (txN q, txD q, 0)) := by show _ = _; rw [← hq9, ratioS_frac hp, resP_few (frac_few want pk (by omega) (by omega) (by omega) (by omega) hp)]
  have hfew : fewT q 2000 = true := by rw [← hq9]; exact frac_few want pk (by omega) (by omega) (by omega) (by omega) hp
  rw [hq9]
  clear hq9
  have HRT0 := Rt.tx hfew
  obtain ⟨S, hS⟩ : ∃ S, txN q = S := ⟨_, rfl⟩
  obtain ⟨T, hT⟩ : ∃ T, txD q = T := ⟨_, rfl⟩
  have HQ9 := Lib.hid (And.intro hS hT)
  rw [hS, hT] at HQV HRT0
  have HRT := Lib.hid HRT0
  clear hS hT hfew HRT0
  have hq : (chkS r xss != 0) = false := by rw [hc.out]; rfl
  have d1 : decide (want < 1) = false := by simp; omega
  have d2 : decide (8388607 < want) = false := by simp; omega
  obtain ⟨W, gx, hW, hgx, HHW, HBX, HSW⟩ := boxes3 w (.cells #[.int .i64 r, .slice (some ad) n c] 24) (.cells #[.int .i64 0, .slice none 0 0] 24) (.cells #[.string ⟨#[]⟩, .string ⟨#[]⟩] 26)
  have HGX := Lib.hid hgx
  obtain ⟨g2, hg2⟩ : ∃ g, g = gx + 1 := ⟨_, rfl⟩
  obtain ⟨g3, hg3⟩ : ∃ g, g = gx + 1 + 1 := ⟨_, rfl⟩
  have HX : Hid (W.heap[gx]? = some (.cells #[.int .i64 r, .slice (some ad) n c] 24 (0, 0))) := HHW.out.1
  have HHR : Hid (W.heap[g2]? = some (.cells #[.int .i64 0, .slice none 0 0] 24 (0, 0))) := by rw [hg2]; exact HHW.out.2.1
  have HRR : Hid (W.heap[g3]? = some (.cells #[.string ⟨#[]⟩, .string ⟨#[]⟩] 26 (0, 0))) := by rw [hg3]; exact HHW.out.2.2
  have HG2 : Hid (w.heap.size ≤ g2 ∧ w.heap.size ≤ g3) := ⟨by have := hgx; omega, by have := hgx; omega⟩
  have hne1 : ¬ g2 = g3 := by omega
  have hne2 : ¬ g3 = g2 := by omega
  go_enter Tryz.func12, Tryz.ntmps12
  go_upto_region 1 with (fail)
  rw [← hW, ← hgx, ← hg3, ← hg2]
  clear hW hgx hg2 hg3 HHW HSW
  obtain ⟨x0, x1, _, _⟩ := two_cells HX.out
  go_wp2_with fail
  refine (CHECK_any r (some ad) n c xss _ B (Nat.le_trans hB HBX.out.size) (hh.out.below HBX.out hB)).mono ?_
  rintro e w1 ⟨rfl, hb⟩
  replace HX := Lib.hid ((hb.block gx (blk_lt HX.out)).trans HX.out)
  replace HHR := Lib.hid ((hb.block g2 (blk_lt HHR.out)).trans HHR.out)
  replace HRR := Lib.hid ((hb.block g3 (blk_lt HRR.out)).trans HRR.out)
  replace HBX := Lib.hid (HBX.out.trans (hb.mono HBX.out.size))
  clear hb x0 x1
  obtain ⟨x0, x1, _, _⟩ := two_cells HX.out
  go_wp2_with fail
  refine (PEAKU_ok r ad n c xss hn hok _ B (Nat.le_trans hB HBX.out.size) (hh.out.below HBX.out hB)).mono ?_
  rintro e w2 ⟨rfl, hb⟩
  replace HX := Lib.hid ((hb.block gx (blk_lt HX.out)).trans HX.out)
  replace HHR := Lib.hid ((hb.block g2 (blk_lt HHR.out)).trans HHR.out)
  replace HRR := Lib.hid ((hb.block g3 (blk_lt HRR.out)).trans HRR.out)
  replace HBX := Lib.hid (HBX.out.trans (hb.mono HBX.out.size))
  clear hb x0 x1
  rw [HPK.out]
  go_wp2_with fail
  refine (RATIOOF_any want pk (by omega) (by omega) (by omega) (by omega) _).mono ?_
  rintro e w3 ⟨rfl, hb⟩
  rw [HQV.out]
  unfold tup3
  dsimp only
  have x0 := 0
  have x1 := 0
  replace HX := Lib.hid ((hb.block gx (blk_lt HX.out)).trans HX.out)
  replace HHR := Lib.hid ((hb.block g2 (blk_lt HHR.out)).trans HHR.out)
  replace HRR := Lib.hid ((hb.block g3 (blk_lt HRR.out)).trans HRR.out)
  replace HBX := Lib.hid (HBX.out.trans (hb.mono HBX.out.size))
  clear hb x0 x1
  go_upto_region 10 with (fail)
  obtain ⟨W, g9, hX, hg, HT9, hb9, _⟩ := cell_new w3 26 #[.string S, .string T]
  rw [← hX, ← hg]
  have hb := hb9.out
  have x0 := 0
  have x1 := 0
  have HG9 : Hid (g9 ≠ g2 ∧ g9 ≠ g3) := ⟨by have := blk_lt HHR.out; omega, by have := blk_lt HRR.out; omega⟩
  replace HX := Lib.hid ((hb.block gx (blk_lt HX.out)).trans HX.out)
  replace HHR := Lib.hid ((hb.block g2 (blk_lt HHR.out)).trans HHR.out)
  replace HRR := Lib.hid ((hb.block g3 (blk_lt HRR.out)).trans HRR.out)
  replace HBX := Lib.hid (HBX.out.trans (hb.mono HBX.out.size))
  clear hb x0 x1
  clear hX hg hb9
  go_upto_region 12 with (fail)
  obtain ⟨x0, x1, _, _⟩ := two_cells HX.out
  obtain ⟨y0, y1, _, _⟩ := two_cells HT9.out
  have HRW := Lib.hid (hh.out.below HBX.out hB)
  have hBW : B ≤ W.heap.size := Nat.le_trans hB HBX.out.size
  have hl0 := blk_lt HX.out
  have hl9 := blk_lt HT9.out
  have hgW2 : Hid (g2 < W.heap.size ∧ g3 < W.heap.size ∧ g9 < W.heap.size ∧ g9 ≠ g2 ∧ g9 ≠ g3) := ⟨blk_lt HHR.out, blk_lt HRR.out, hl9, HG9.out⟩
  refine wp_region_text 8 (fun x9 => x9.cell? ⟨gx, 0, none⟩ = some (.int .i64 r) ∧ x9.cell? ⟨gx, 1, none⟩ = some (.slice (some ad) n c) ∧ x9.cell? ⟨g9, 0, none⟩ = some (.string S) ∧ x9.cell? ⟨g9, 1, none⟩ = some (.string T)) (by kernel_rfl) (by kernel_rfl) ?_
  obtain ⟨wc, hwc⟩ : ∃ x : World, x = W.drew := ⟨_, rfl⟩
  have hbn : Below W.heap.size W W.drew := (Below.refl _ _).drew
  have HHR := Lib.hid ((hbn.block g2 (blk_lt HHR.out)).trans HHR.out)
  have HRR := Lib.hid ((hbn.block g3 (blk_lt HRR.out)).trans HRR.out)
  have HT9 := Lib.hid ((hbn.block g9 (blk_lt HT9.out)).trans HT9.out)
  clear hbn
  have HBc : Hid (Below W.heap.size W wc) := by show Below _ _ _; rw [hwc]; exact (Below.refl _ _).drew
  have hS : wc.cell? ⟨gx, 0, none⟩ = some (.int .i64 r) ∧ wc.cell? ⟨gx, 1, none⟩ = some (.slice (some ad) n c) ∧ wc.cell? ⟨g9, 0, none⟩ = some (.string S) ∧ wc.cell? ⟨g9, 1, none⟩ = some (.string T) := by rw [hwc]; exact ⟨x0, x1, y0, y1⟩
  have hg_0 : gx < wc.heap.size := by rw [hwc]; exact hl0
  have hg_1 : g9 < wc.heap.size := by rw [hwc]; exact hl9
  rw [← hwc] at HHR HRR HT9
  rw [← hwc]
  clear hwc
  refine HT.load (i := 0) (oi := _) (v := ?_) rfl (by kernel_rfl) (by kernel_rfl) (by decide) (fun _ _ _ h => h) (by kernel_rfl) (Or.inl ⟨by rfl, ?_⟩) hS ?_
  rotate_left
  · intro wz hwz
    try dsimp only at hwz
    go_simp
    try with_reducible rfl
  simp only [List.getElem_toArray, List.getElem_cons_succ, List.getElem_cons_zero, Act.put, List.setIfInBounds_toArray, List.set_cons_zero, List.set_cons_succ]
  refine HT.load (i := 1) (oi := _) (v := ?_) rfl (by kernel_rfl) (by kernel_rfl) (by decide) (fun _ _ _ h => h) (by kernel_rfl) (Or.inl ⟨by rfl, ?_⟩) hS ?_
  rotate_left
  · intro wz hwz
    try dsimp only at hwz
    go_simp
    try with_reducible rfl
  simp only [List.getElem_toArray, List.getElem_cons_succ, List.getElem_cons_zero, Act.put, List.setIfInBounds_toArray, List.set_cons_zero, List.set_cons_succ]
  refine HT.two 2 7 (o := _) (o' := _) rfl rfl (by kernel_rfl) (by decide) (by decide) (by rfl) (by rfl) ?_ ?_
  · intro K hK
    go_simp
    refine (FROM_ok HRT.out _).mono ?_
    rintro e wn ⟨ng1, A1, n1, c1, D1, m1, d1, rfl, hH1, k1, l1, hbn⟩
    have H1 := Lib.hid hH1
    clear hH1
    replace HHR := Lib.hid ((hbn.block g2 (blk_lt HHR.out)).trans HHR.out)
    replace HRR := Lib.hid ((hbn.block g3 (blk_lt HRR.out)).trans HRR.out)
    replace HT9 := Lib.hid ((hbn.block g9 (blk_lt HT9.out)).trans HT9.out)
    have HBn := Lib.hid (HBc.out.trans (hbn.mono HBc.out.size))
    have hSn : wn.cell? ⟨gx, 0, none⟩ = some (.int .i64 r) ∧ wn.cell? ⟨gx, 1, none⟩ = some (.slice (some ad) n c) ∧ wn.cell? ⟨g9, 0, none⟩ = some (.string S) ∧ wn.cell? ⟨g9, 1, none⟩ = some (.string T) := ⟨(hbn.cell (p := ⟨gx, 0, none⟩) hg_0).trans hS.1, (hbn.cell (p := ⟨gx, 1, none⟩) hg_0).trans hS.2.1, (hbn.cell (p := ⟨g9, 0, none⟩) hg_1).trans hS.2.2.1, (hbn.cell (p := ⟨g9, 1, none⟩) hg_1).trans hS.2.2.2⟩
    have hgn_0 := Nat.lt_of_lt_of_le hg_0 hbn.size
    have hgn_1 := Nat.lt_of_lt_of_le hg_1 hbn.size
    refine hK.out _ _ hSn ?_
    clear hK K hS HBc hg_0 hg_1
    try simp only [List.getElem_toArray, List.getElem_cons_succ, List.getElem_cons_zero, Act.put, List.setIfInBounds_toArray, List.set_cons_zero, List.set_cons_succ]
    have hS := hSn
    have HBc := HBn
    have hg_0 := hgn_0
    have hg_1 := hgn_1
    clear hSn HBn hbn hgn_0 hgn_1
    obtain ⟨wc, rfl⟩ : ∃ x : World, x = wn := ⟨_, rfl⟩
    refine HT.two 3 7 (o := _) (o' := _) rfl rfl (by kernel_rfl) (by decide) (by decide) (by rfl) (by rfl) ?_ ?_
    · intro K hK
      go_simp
      have HRc := Lib.hid ((HRW.out.below HBc.out hBW).mono (Nat.le_trans hBW HBc.out.size))
      refine (STIMES_ok r ad n c xss hok ng1 A1 n1 c1 D1 m1 d1 q (by omega) (by omega) _ wc.heap.size (Nat.le_refl _) HRc H1).mono ?_
      rintro e wn ⟨v2, rfl, hO2, hbn⟩
      obtain ⟨A2, c2, rfl, _, _⟩ := hO2.form
      replace hO2 := hO2.base (show W.heap.size ≤ wc.heap.size from HBc.out.size)
      clear HRc
      have O2 := Lib.hid hO2
      clear hO2
      clear H1
      replace HHR := Lib.hid ((hbn.block g2 (blk_lt HHR.out)).trans HHR.out)
      replace HRR := Lib.hid ((hbn.block g3 (blk_lt HRR.out)).trans HRR.out)
      replace HT9 := Lib.hid ((hbn.block g9 (blk_lt HT9.out)).trans HT9.out)
      have HBn := Lib.hid (HBc.out.trans (hbn.mono HBc.out.size))
      have hSn : wn.cell? ⟨gx, 0, none⟩ = some (.int .i64 r) ∧ wn.cell? ⟨gx, 1, none⟩ = some (.slice (some ad) n c) ∧ wn.cell? ⟨g9, 0, none⟩ = some (.string S) ∧ wn.cell? ⟨g9, 1, none⟩ = some (.string T) := ⟨(hbn.cell (p := ⟨gx, 0, none⟩) hg_0).trans hS.1, (hbn.cell (p := ⟨gx, 1, none⟩) hg_0).trans hS.2.1, (hbn.cell (p := ⟨g9, 0, none⟩) hg_1).trans hS.2.2.1, (hbn.cell (p := ⟨g9, 1, none⟩) hg_1).trans hS.2.2.2⟩
      have hgn_0 := Nat.lt_of_lt_of_le hg_0 hbn.size
      have hgn_1 := Nat.lt_of_lt_of_le hg_1 hbn.size
      refine hK.out _ _ hSn ?_
      clear hK K hS HBc hg_0 hg_1
      try simp only [List.getElem_toArray, List.getElem_cons_succ, List.getElem_cons_zero, Act.put, List.setIfInBounds_toArray, List.set_cons_zero, List.set_cons_succ]
      have hS := hSn
      have HBc := HBn
      have hg_0 := hgn_0
      have hg_1 := hgn_1
      clear hSn HBn hbn hgn_0 hgn_1
      obtain ⟨wc, rfl⟩ : ∃ x : World, x = wn := ⟨_, rfl⟩
      refine HT.take (i := 4) (oi := _) (v := ?_) rfl (by kernel_rfl) (by kernel_rfl) (by decide) (fun _ _ _ h => h) (Or.inl ⟨by rfl, ?_⟩) hS ?_
      rotate_left
      · intro wz
        go_simp
        try with_reducible rfl
      simp only [List.getElem_toArray, List.getElem_cons_succ, List.getElem_cons_zero, Act.put, List.setIfInBounds_toArray, List.set_cons_zero, List.set_cons_succ]
      refine HT.take (i := 5) (oi := _) (v := ?_) rfl (by kernel_rfl) (by kernel_rfl) (by decide) (fun _ _ _ h => h) (Or.inl ⟨by rfl, ?_⟩) hS ?_
      rotate_left
      · intro wz
        go_simp
        try with_reducible rfl
      simp only [List.getElem_toArray, List.getElem_cons_succ, List.getElem_cons_zero, Act.put, List.setIfInBounds_toArray, List.set_cons_zero, List.set_cons_succ]
      refine HT.take (i := 6) (oi := _) (v := ?_) rfl (by kernel_rfl) (by kernel_rfl) (by decide) (fun _ _ _ h => h) (Or.inl ⟨by rfl, ?_⟩) hS ?_
      rotate_left
      · intro wz
        go_simp
        try with_reducible rfl
      simp only [List.getElem_toArray, List.getElem_cons_succ, List.getElem_cons_zero, Act.put, List.setIfInBounds_toArray, List.set_cons_zero, List.set_cons_succ]
      refine HT.one (i := 7) (o := _) rfl (by kernel_rfl) (by decide) (by rfl) ?_
      intro K hK
      go_simp
      obtain ⟨wn, ga, hwn, hga9, hHA, hbn0, _⟩ := cell_new0 wc 24 #[.int .i64 0, .slice none 0 0]
      have hbn := hbn0.out
      have HGga : Hid (W.heap.size ≤ ga) := by show _ ≤ _; rw [hga9]; exact HBc.out.size
      have hne_g2_ga : g2 ≠ ga := by have := blk_lt HHR.out; omega
      have hne_g3_ga : g3 ≠ ga := by have := blk_lt HRR.out; omega
      have hne_g9_ga : g9 ≠ ga := by have := blk_lt HT9.out; omega
      rw [← hwn, ← hga9]
      have HA := hHA
      clear hwn hga9 hbn0 hHA
      replace HHR := Lib.hid ((hbn.block g2 (blk_lt HHR.out)).trans HHR.out)
      replace HRR := Lib.hid ((hbn.block g3 (blk_lt HRR.out)).trans HRR.out)
      replace HT9 := Lib.hid ((hbn.block g9 (blk_lt HT9.out)).trans HT9.out)
      replace O2 := Lib.hid (O2.out.below hbn)
      have HBn := Lib.hid (HBc.out.trans (hbn.mono HBc.out.size))
      have hSn : wn.cell? ⟨gx, 0, none⟩ = some (.int .i64 r) ∧ wn.cell? ⟨gx, 1, none⟩ = some (.slice (some ad) n c) ∧ wn.cell? ⟨g9, 0, none⟩ = some (.string S) ∧ wn.cell? ⟨g9, 1, none⟩ = some (.string T) := ⟨(hbn.cell (p := ⟨gx, 0, none⟩) hg_0).trans hS.1, (hbn.cell (p := ⟨gx, 1, none⟩) hg_0).trans hS.2.1, (hbn.cell (p := ⟨g9, 0, none⟩) hg_1).trans hS.2.2.1, (hbn.cell (p := ⟨g9, 1, none⟩) hg_1).trans hS.2.2.2⟩
      have hgn_0 := Nat.lt_of_lt_of_le hg_0 hbn.size
      have hgn_1 := Nat.lt_of_lt_of_le hg_1 hbn.size
      refine hK.out _ _ hSn ?_
      clear hK K hS HBc hg_0 hg_1
      try simp only [List.getElem_toArray, List.getElem_cons_succ, List.getElem_cons_zero, Act.put, List.setIfInBounds_toArray, List.set_cons_zero, List.set_cons_succ]
      have hS := hSn
      have HBc := HBn
      have hg_0 := hgn_0
      have hg_1 := hgn_1
      clear hSn HBn hbn hgn_0 hgn_1
      obtain ⟨wc, rfl⟩ : ∃ x : World, x = wn := ⟨_, rfl⟩
      obtain ⟨hr0, hr1, hf0, hf1⟩ := two_cells HHR.out
      obtain ⟨hs0, hs1, hk0, hk1⟩ := two_cells HRR.out
      obtain ⟨ht0, ht1, _, _⟩ := two_cells HT9.out
      obtain ⟨ha0, ha1, hfa0, hfa1⟩ := two_cells HA.out
      have hla := blk_lt HA.out
      have hl2 := blk_lt HHR.out
      have hl3 := blk_lt HRR.out
      have hl9 := blk_lt HT9.out
      refine HT.done (by kernel_rfl) ?_
      clear hS
      simp only [List.drop_succ_cons, List.drop_zero]
      have hga9 := HGga.out
      have hgW := hgW2.out
      have hna2 : ¬ ga = g2 := by omega
      have hna3 : ¬ ga = g3 := by omega
      have hna9 : ¬ ga = g9 := by omega
      have hna2' : ¬ g2 = ga := by omega
      have hna3' : ¬ g3 = ga := by omega
      have hna9' : ¬ g9 = ga := by omega
      go_wp2_with fail
      go_region
      go_wp2_with fail
      have HB9 := HBX.out.trans (HBc.out.mono HBX.out.size)
      have hbx9 := HBX.out.size
      have hg29 := HG2.out
      obtain ⟨rows, hL⟩ := O2.out
      simp only [List.length_map] at hL
      have H2' : ((wc.setCell ⟨ga, 0, none⟩ (.int .i64 r)).setCell ⟨ga, 1, none⟩ (.slice A2 xss.length c2)).heap[g2]? = some (.cells #[.int .i64 0, .slice none 0 0] 24 (0, 0)) := by
        rw [Below.heap_setCell _ _ _ _ (by simpa using hna2'), Below.heap_setCell _ _ _ _ (by simpa using hna2')]; exact HHR.out
      have H3' : ((wc.setCell ⟨ga, 0, none⟩ (.int .i64 r)).setCell ⟨ga, 1, none⟩ (.slice A2 xss.length c2)).heap[g3]? = some (.cells #[.string ⟨#[]⟩, .string ⟨#[]⟩] 26 (0, 0)) := by
        rw [Below.heap_setCell _ _ _ _ (by simpa using hna3'), Below.heap_setCell _ _ _ _ (by simpa using hna3')]; exact HRR.out
      exact fin_norm_drew rfl rfl rfl rfl (norm_set H2' H3' hne1).1 (norm_set H2' H3' hne1).2 ⟨_, by rw [HQ9.out.1, HQ9.out.2]; rfl, ⟨rows, (((((hL.set2_far HA.out (by decide) (by decide) _ _).set_below (p := ⟨g2, 0, none⟩) (by simp; omega) _).set_below (p := ⟨g2, 1, none⟩) (by simp; omega) _).set_below (p := ⟨g3, 0, none⟩) (by simp; omega) _).set_below (p := ⟨g3, 1, none⟩) (by simp; omega) _).drew.base hbx9⟩, (set2_below' (set2_below' (set2_below' HB9 (by omega)) hg29.1) hg29.2).drew⟩
      -- HHR HRR HT9 HA O2
    · intro K hK
      go_simp
      obtain ⟨wn, ga, hwn, hga9, hHA, hbn0, _⟩ := cell_new0 wc 24 #[.int .i64 0, .slice none 0 0]
      have hbn := hbn0.out
      have HGga : Hid (W.heap.size ≤ ga) := by show _ ≤ _; rw [hga9]; exact HBc.out.size
      have hne_g2_ga : g2 ≠ ga := by have := blk_lt HHR.out; omega
      have hne_g3_ga : g3 ≠ ga := by have := blk_lt HRR.out; omega
      have hne_g9_ga : g9 ≠ ga := by have := blk_lt HT9.out; omega
      rw [← hwn, ← hga9]
      have HA := hHA
      clear hwn hga9 hbn0 hHA
      replace HHR := Lib.hid ((hbn.block g2 (blk_lt HHR.out)).trans HHR.out)
      replace HRR := Lib.hid ((hbn.block g3 (blk_lt HRR.out)).trans HRR.out)
      replace HT9 := Lib.hid ((hbn.block g9 (blk_lt HT9.out)).trans HT9.out)
      replace H1 := Lib.hid (H1.out.to hbn (Nat.le_refl _) hbn.size)
      have HBn := Lib.hid (HBc.out.trans (hbn.mono HBc.out.size))
      have hSn : wn.cell? ⟨gx, 0, none⟩ = some (.int .i64 r) ∧ wn.cell? ⟨gx, 1, none⟩ = some (.slice (some ad) n c) ∧ wn.cell? ⟨g9, 0, none⟩ = some (.string S) ∧ wn.cell? ⟨g9, 1, none⟩ = some (.string T) := ⟨(hbn.cell (p := ⟨gx, 0, none⟩) hg_0).trans hS.1, (hbn.cell (p := ⟨gx, 1, none⟩) hg_0).trans hS.2.1, (hbn.cell (p := ⟨g9, 0, none⟩) hg_1).trans hS.2.2.1, (hbn.cell (p := ⟨g9, 1, none⟩) hg_1).trans hS.2.2.2⟩
      have hgn_0 := Nat.lt_of_lt_of_le hg_0 hbn.size
      have hgn_1 := Nat.lt_of_lt_of_le hg_1 hbn.size
      refine hK.out _ _ hSn ?_
      clear hK K hS HBc hg_0 hg_1
      try simp only [List.getElem_toArray, List.getElem_cons_succ, List.getElem_cons_zero, Act.put, List.setIfInBounds_toArray, List.set_cons_zero, List.set_cons_succ]
      have hS := hSn
      have HBc := HBn
      have hg_0 := hgn_0
      have hg_1 := hgn_1
      clear hSn HBn hbn hgn_0 hgn_1
      obtain ⟨wc, rfl⟩ : ∃ x : World, x = wn := ⟨_, rfl⟩
      refine HT.one (i := 3) (o := _) rfl (by kernel_rfl) (by decide) (by rfl) ?_
      intro K hK
      go_simp
      have HRc := Lib.hid ((HRW.out.below HBc.out hBW).mono (Nat.le_trans hBW HBc.out.size))
      refine (STIMES_ok r ad n c xss hok ng1 A1 n1 c1 D1 m1 d1 q (by omega) (by omega) _ wc.heap.size (Nat.le_refl _) HRc H1).mono ?_
      rintro e wn ⟨v2, rfl, hO2, hbn⟩
      obtain ⟨A2, c2, rfl, _, _⟩ := hO2.form
      replace hO2 := hO2.base (show W.heap.size ≤ wc.heap.size from HBc.out.size)
      clear HRc
      have O2 := Lib.hid hO2
      clear hO2
      clear H1
      replace HHR := Lib.hid ((hbn.block g2 (blk_lt HHR.out)).trans HHR.out)
      replace HRR := Lib.hid ((hbn.block g3 (blk_lt HRR.out)).trans HRR.out)
      replace HT9 := Lib.hid ((hbn.block g9 (blk_lt HT9.out)).trans HT9.out)
      replace HA := Lib.hid ((hbn.block ga (blk_lt HA.out)).trans HA.out)
      have HBn := Lib.hid (HBc.out.trans (hbn.mono HBc.out.size))
      have hSn : wn.cell? ⟨gx, 0, none⟩ = some (.int .i64 r) ∧ wn.cell? ⟨gx, 1, none⟩ = some (.slice (some ad) n c) ∧ wn.cell? ⟨g9, 0, none⟩ = some (.string S) ∧ wn.cell? ⟨g9, 1, none⟩ = some (.string T) := ⟨(hbn.cell (p := ⟨gx, 0, none⟩) hg_0).trans hS.1, (hbn.cell (p := ⟨gx, 1, none⟩) hg_0).trans hS.2.1, (hbn.cell (p := ⟨g9, 0, none⟩) hg_1).trans hS.2.2.1, (hbn.cell (p := ⟨g9, 1, none⟩) hg_1).trans hS.2.2.2⟩
      have hgn_0 := Nat.lt_of_lt_of_le hg_0 hbn.size
      have hgn_1 := Nat.lt_of_lt_of_le hg_1 hbn.size
      refine hK.out _ _ hSn ?_
      clear hK K hS HBc hg_0 hg_1
      try simp only [List.getElem_toArray, List.getElem_cons_succ, List.getElem_cons_zero, Act.put, List.setIfInBounds_toArray, List.set_cons_zero, List.set_cons_succ]
      have hS := hSn
      have HBc := HBn
      have hg_0 := hgn_0
      have hg_1 := hgn_1
      clear hSn HBn hbn hgn_0 hgn_1
      obtain ⟨wc, rfl⟩ : ∃ x : World, x = wn := ⟨_, rfl⟩
      refine HT.take (i := 4) (oi := _) (v := ?_) rfl (by kernel_rfl) (by kernel_rfl) (by decide) (fun _ _ _ h => h) (Or.inl ⟨by rfl, ?_⟩) hS ?_
      rotate_left
      · intro wz
        go_simp
        try with_reducible rfl
      simp only [List.getElem_toArray, List.getElem_cons_succ, List.getElem_cons_zero, Act.put, List.setIfInBounds_toArray, List.set_cons_zero, List.set_cons_succ]
      refine HT.take (i := 5) (oi := _) (v := ?_) rfl (by kernel_rfl) (by kernel_rfl) (by decide) (fun _ _ _ h => h) (Or.inl ⟨by rfl, ?_⟩) hS ?_
      rotate_left
      · intro wz
        go_simp
        try with_reducible rfl
      simp only [List.getElem_toArray, List.getElem_cons_succ, List.getElem_cons_zero, Act.put, List.setIfInBounds_toArray, List.set_cons_zero, List.set_cons_succ]
      refine HT.take (i := 6) (oi := _) (v := ?_) rfl (by kernel_rfl) (by kernel_rfl) (by decide) (fun _ _ _ h => h) (Or.inl ⟨by rfl, ?_⟩) hS ?_
      rotate_left
      · intro wz
        go_simp
        try with_reducible rfl
      simp only [List.getElem_toArray, List.getElem_cons_succ, List.getElem_cons_zero, Act.put, List.setIfInBounds_toArray, List.set_cons_zero, List.set_cons_succ]
      obtain ⟨hr0, hr1, hf0, hf1⟩ := two_cells HHR.out
      obtain ⟨hs0, hs1, hk0, hk1⟩ := two_cells HRR.out
      obtain ⟨ht0, ht1, _, _⟩ := two_cells HT9.out
      obtain ⟨ha0, ha1, hfa0, hfa1⟩ := two_cells HA.out
      have hla := blk_lt HA.out
      have hl2 := blk_lt HHR.out
      have hl3 := blk_lt HRR.out
      have hl9 := blk_lt HT9.out
      refine HT.done (by kernel_rfl) ?_
      clear hS
      simp only [List.drop_succ_cons, List.drop_zero]
      have hga9 := HGga.out
      have hgW := hgW2.out
      have hna2 : ¬ ga = g2 := by omega
      have hna3 : ¬ ga = g3 := by omega
      have hna9 : ¬ ga = g9 := by omega
      have hna2' : ¬ g2 = ga := by omega
      have hna3' : ¬ g3 = ga := by omega
      have hna9' : ¬ g9 = ga := by omega
      go_wp2_with fail
      go_region
      go_wp2_with fail
      have HB9 := HBX.out.trans (HBc.out.mono HBX.out.size)
      have hbx9 := HBX.out.size
      have hg29 := HG2.out
      obtain ⟨rows, hL⟩ := O2.out
      simp only [List.length_map] at hL
      have H2' : ((wc.setCell ⟨ga, 0, none⟩ (.int .i64 r)).setCell ⟨ga, 1, none⟩ (.slice A2 xss.length c2)).heap[g2]? = some (.cells #[.int .i64 0, .slice none 0 0] 24 (0, 0)) := by
        rw [Below.heap_setCell _ _ _ _ (by simpa using hna2'), Below.heap_setCell _ _ _ _ (by simpa using hna2')]; exact HHR.out
      have H3' : ((wc.setCell ⟨ga, 0, none⟩ (.int .i64 r)).setCell ⟨ga, 1, none⟩ (.slice A2 xss.length c2)).heap[g3]? = some (.cells #[.string ⟨#[]⟩, .string ⟨#[]⟩] 26 (0, 0)) := by
        rw [Below.heap_setCell _ _ _ _ (by simpa using hna3'), Below.heap_setCell _ _ _ _ (by simpa using hna3')]; exact HRR.out
      exact fin_norm_drew rfl rfl rfl rfl (norm_set H2' H3' hne1).1 (norm_set H2' H3' hne1).2 ⟨_, by rw [HQ9.out.1, HQ9.out.2]; rfl, ⟨rows, (((((hL.set2_far HA.out (by decide) (by decide) _ _).set_below (p := ⟨g2, 0, none⟩) (by simp; omega) _).set_below (p := ⟨g2, 1, none⟩) (by simp; omega) _).set_below (p := ⟨g3, 0, none⟩) (by simp; omega) _).set_below (p := ⟨g3, 1, none⟩) (by simp; omega) _).drew.base hbx9⟩, (set2_below' (set2_below' (set2_below' HB9 (by omega)) hg29.1) hg29.2).drew⟩
      -- HHR HRR HT9 HA O2
  · intro K hK
    go_simp
    obtain ⟨wn, ga, hwn, hga9, hHA, hbn0, _⟩ := cell_new0 wc 24 #[.int .i64 0, .slice none 0 0]
    have hbn := hbn0.out
    have HGga : Hid (W.heap.size ≤ ga) := by show _ ≤ _; rw [hga9]; exact HBc.out.size
    have hne_g2_ga : g2 ≠ ga := by have := blk_lt HHR.out; omega
    have hne_g3_ga : g3 ≠ ga := by have := blk_lt HRR.out; omega
    have hne_g9_ga : g9 ≠ ga := by have := blk_lt HT9.out; omega
    rw [← hwn, ← hga9]
    have HA := hHA
    clear hwn hga9 hbn0 hHA
    replace HHR := Lib.hid ((hbn.block g2 (blk_lt HHR.out)).trans HHR.out)
    replace HRR := Lib.hid ((hbn.block g3 (blk_lt HRR.out)).trans HRR.out)
    replace HT9 := Lib.hid ((hbn.block g9 (blk_lt HT9.out)).trans HT9.out)
    have HBn := Lib.hid (HBc.out.trans (hbn.mono HBc.out.size))
    have hSn : wn.cell? ⟨gx, 0, none⟩ = some (.int .i64 r) ∧ wn.cell? ⟨gx, 1, none⟩ = some (.slice (some ad) n c) ∧ wn.cell? ⟨g9, 0, none⟩ = some (.string S) ∧ wn.cell? ⟨g9, 1, none⟩ = some (.string T) := ⟨(hbn.cell (p := ⟨gx, 0, none⟩) hg_0).trans hS.1, (hbn.cell (p := ⟨gx, 1, none⟩) hg_0).trans hS.2.1, (hbn.cell (p := ⟨g9, 0, none⟩) hg_1).trans hS.2.2.1, (hbn.cell (p := ⟨g9, 1, none⟩) hg_1).trans hS.2.2.2⟩
    have hgn_0 := Nat.lt_of_lt_of_le hg_0 hbn.size
    have hgn_1 := Nat.lt_of_lt_of_le hg_1 hbn.size
    refine hK.out _ _ hSn ?_
    clear hK K hS HBc hg_0 hg_1
    try simp only [List.getElem_toArray, List.getElem_cons_succ, List.getElem_cons_zero, Act.put, List.setIfInBounds_toArray, List.set_cons_zero, List.set_cons_succ]
    have hS := hSn
    have HBc := HBn
    have hg_0 := hgn_0
    have hg_1 := hgn_1
    clear hSn HBn hbn hgn_0 hgn_1
    obtain ⟨wc, rfl⟩ : ∃ x : World, x = wn := ⟨_, rfl⟩
    refine HT.one (i := 2) (o := _) rfl (by kernel_rfl) (by decide) (by rfl) ?_
    intro K hK
    go_simp
    refine (FROM_ok HRT.out _).mono ?_
    rintro e wn ⟨ng1, A1, n1, c1, D1, m1, d1, rfl, hH1, k1, l1, hbn⟩
    have H1 := Lib.hid hH1
    clear hH1
    replace HHR := Lib.hid ((hbn.block g2 (blk_lt HHR.out)).trans HHR.out)
    replace HRR := Lib.hid ((hbn.block g3 (blk_lt HRR.out)).trans HRR.out)
    replace HT9 := Lib.hid ((hbn.block g9 (blk_lt HT9.out)).trans HT9.out)
    replace HA := Lib.hid ((hbn.block ga (blk_lt HA.out)).trans HA.out)
    have HBn := Lib.hid (HBc.out.trans (hbn.mono HBc.out.size))
    have hSn : wn.cell? ⟨gx, 0, none⟩ = some (.int .i64 r) ∧ wn.cell? ⟨gx, 1, none⟩ = some (.slice (some ad) n c) ∧ wn.cell? ⟨g9, 0, none⟩ = some (.string S) ∧ wn.cell? ⟨g9, 1, none⟩ = some (.string T) := ⟨(hbn.cell (p := ⟨gx, 0, none⟩) hg_0).trans hS.1, (hbn.cell (p := ⟨gx, 1, none⟩) hg_0).trans hS.2.1, (hbn.cell (p := ⟨g9, 0, none⟩) hg_1).trans hS.2.2.1, (hbn.cell (p := ⟨g9, 1, none⟩) hg_1).trans hS.2.2.2⟩
    have hgn_0 := Nat.lt_of_lt_of_le hg_0 hbn.size
    have hgn_1 := Nat.lt_of_lt_of_le hg_1 hbn.size
    refine hK.out _ _ hSn ?_
    clear hK K hS HBc hg_0 hg_1
    try simp only [List.getElem_toArray, List.getElem_cons_succ, List.getElem_cons_zero, Act.put, List.setIfInBounds_toArray, List.set_cons_zero, List.set_cons_succ]
    have hS := hSn
    have HBc := HBn
    have hg_0 := hgn_0
    have hg_1 := hgn_1
    clear hSn HBn hbn hgn_0 hgn_1
    obtain ⟨wc, rfl⟩ : ∃ x : World, x = wn := ⟨_, rfl⟩
    refine HT.one (i := 3) (o := _) rfl (by kernel_rfl) (by decide) (by rfl) ?_
    intro K hK
    go_simp
    have HRc := Lib.hid ((HRW.out.below HBc.out hBW).mono (Nat.le_trans hBW HBc.out.size))
    refine (STIMES_ok r ad n c xss hok ng1 A1 n1 c1 D1 m1 d1 q (by omega) (by omega) _ wc.heap.size (Nat.le_refl _) HRc H1).mono ?_
    rintro e wn ⟨v2, rfl, hO2, hbn⟩
    obtain ⟨A2, c2, rfl, _, _⟩ := hO2.form
    replace hO2 := hO2.base (show W.heap.size ≤ wc.heap.size from HBc.out.size)
    clear HRc
    have O2 := Lib.hid hO2
    clear hO2
    clear H1
    replace HHR := Lib.hid ((hbn.block g2 (blk_lt HHR.out)).trans HHR.out)
    replace HRR := Lib.hid ((hbn.block g3 (blk_lt HRR.out)).trans HRR.out)
    replace HT9 := Lib.hid ((hbn.block g9 (blk_lt HT9.out)).trans HT9.out)
    replace HA := Lib.hid ((hbn.block ga (blk_lt HA.out)).trans HA.out)
    have HBn := Lib.hid (HBc.out.trans (hbn.mono HBc.out.size))
    have hSn : wn.cell? ⟨gx, 0, none⟩ = some (.int .i64 r) ∧ wn.cell? ⟨gx, 1, none⟩ = some (.slice (some ad) n c) ∧ wn.cell? ⟨g9, 0, none⟩ = some (.string S) ∧ wn.cell? ⟨g9, 1, none⟩ = some (.string T) := ⟨(hbn.cell (p := ⟨gx, 0, none⟩) hg_0).trans hS.1, (hbn.cell (p := ⟨gx, 1, none⟩) hg_0).trans hS.2.1, (hbn.cell (p := ⟨g9, 0, none⟩) hg_1).trans hS.2.2.1, (hbn.cell (p := ⟨g9, 1, none⟩) hg_1).trans hS.2.2.2⟩
    have hgn_0 := Nat.lt_of_lt_of_le hg_0 hbn.size
    have hgn_1 := Nat.lt_of_lt_of_le hg_1 hbn.size
    refine hK.out _ _ hSn ?_
    clear hK K hS HBc hg_0 hg_1
    try simp only [List.getElem_toArray, List.getElem_cons_succ, List.getElem_cons_zero, Act.put, List.setIfInBounds_toArray, List.set_cons_zero, List.set_cons_succ]
    have hS := hSn
    have HBc := HBn
    have hg_0 := hgn_0
    have hg_1 := hgn_1
    clear hSn HBn hbn hgn_0 hgn_1
    obtain ⟨wc, rfl⟩ : ∃ x : World, x = wn := ⟨_, rfl⟩
    refine HT.take (i := 4) (oi := _) (v := ?_) rfl (by kernel_rfl) (by kernel_rfl) (by decide) (fun _ _ _ h => h) (Or.inl ⟨by rfl, ?_⟩) hS ?_
    rotate_left
    · intro wz
      go_simp
      try with_reducible rfl
    simp only [List.getElem_toArray, List.getElem_cons_succ, List.getElem_cons_zero, Act.put, List.setIfInBounds_toArray, List.set_cons_zero, List.set_cons_succ]
    refine HT.take (i := 5) (oi := _) (v := ?_) rfl (by kernel_rfl) (by kernel_rfl) (by decide) (fun _ _ _ h => h) (Or.inl ⟨by rfl, ?_⟩) hS ?_
    rotate_left
    · intro wz
      go_simp
      try with_reducible rfl
    simp only [List.getElem_toArray, List.getElem_cons_succ, List.getElem_cons_zero, Act.put, List.setIfInBounds_toArray, List.set_cons_zero, List.set_cons_succ]
    refine HT.take (i := 6) (oi := _) (v := ?_) rfl (by kernel_rfl) (by kernel_rfl) (by decide) (fun _ _ _ h => h) (Or.inl ⟨by rfl, ?_⟩) hS ?_
    rotate_left
    · intro wz
      go_simp
      try with_reducible rfl
    simp only [List.getElem_toArray, List.getElem_cons_succ, List.getElem_cons_zero, Act.put, List.setIfInBounds_toArray, List.set_cons_zero, List.set_cons_succ]
    obtain ⟨hr0, hr1, hf0, hf1⟩ := two_cells HHR.out
    obtain ⟨hs0, hs1, hk0, hk1⟩ := two_cells HRR.out
    obtain ⟨ht0, ht1, _, _⟩ := two_cells HT9.out
    obtain ⟨ha0, ha1, hfa0, hfa1⟩ := two_cells HA.out
    have hla := blk_lt HA.out
    have hl2 := blk_lt HHR.out
    have hl3 := blk_lt HRR.out
    have hl9 := blk_lt HT9.out
    refine HT.done (by kernel_rfl) ?_
    clear hS
    simp only [List.drop_succ_cons, List.drop_zero]
    have hga9 := HGga.out
    have hgW := hgW2.out
    have hna2 : ¬ ga = g2 := by omega
    have hna3 : ¬ ga = g3 := by omega
    have hna9 : ¬ ga = g9 := by omega
    have hna2' : ¬ g2 = ga := by omega
    have hna3' : ¬ g3 = ga := by omega
    have hna9' : ¬ g9 = ga := by omega
    go_wp2_with fail
    go_region
    go_wp2_with fail
    have HB9 := HBX.out.trans (HBc.out.mono HBX.out.size)
    have hbx9 := HBX.out.size
    have hg29 := HG2.out
    obtain ⟨rows, hL⟩ := O2.out
    simp only [List.length_map] at hL
    have H2' : ((wc.setCell ⟨ga, 0, none⟩ (.int .i64 r)).setCell ⟨ga, 1, none⟩ (.slice A2 xss.length c2)).heap[g2]? = some (.cells #[.int .i64 0, .slice none 0 0] 24 (0, 0)) := by
      rw [Below.heap_setCell _ _ _ _ (by simpa using hna2'), Below.heap_setCell _ _ _ _ (by simpa using hna2')]; exact HHR.out
    have H3' : ((wc.setCell ⟨ga, 0, none⟩ (.int .i64 r)).setCell ⟨ga, 1, none⟩ (.slice A2 xss.length c2)).heap[g3]? = some (.cells #[.string ⟨#[]⟩, .string ⟨#[]⟩] 26 (0, 0)) := by
      rw [Below.heap_setCell _ _ _ _ (by simpa using hna3'), Below.heap_setCell _ _ _ _ (by simpa using hna3')]; exact HRR.out
    exact fin_norm_drew rfl rfl rfl rfl (norm_set H2' H3' hne1).1 (norm_set H2' H3' hne1).2 ⟨_, by rw [HQ9.out.1, HQ9.out.2]; rfl, ⟨rows, (((((hL.set2_far HA.out (by decide) (by decide) _ _).set_below (p := ⟨g2, 0, none⟩) (by simp; omega) _).set_below (p := ⟨g2, 1, none⟩) (by simp; omega) _).set_below (p := ⟨g3, 0, none⟩) (by simp; omega) _).set_below (p := ⟨g3, 1, none⟩) (by simp; omega) _).drew.base hbx9⟩, (set2_below' (set2_below' (set2_below' HB9 (by omega)) hg29.1) hg29.2).drew⟩
    -- HHR HRR HT9 HA O2
theorem NORMAL_any (r : Int) (A : Option Addr) (n c : Nat) (want : Int) (xss : List (List Int)) (w : World)  (B : Nat) (hB : B ≤ w.heap.size) (hh : RowsAt w B A n xss) :
    Calls Tryz.prog 12 #[.agg #[.int .i64 r, .slice A n c], .int .i64 want] w (OutNo w (normS r xss want)) := by
  unfold normS
  by_cases hc : chkS r xss = 0
  · have hok := chkS_ok hc
    have hn : 0 < n := by have := hok.some; have := hh.1; omega
    obtain ⟨ad, rfl⟩ := hh.addr hn
    rw [if_neg (by simp [hc])]
    by_cases hd : want < 1 ∨ 8388607 < want
    · rw [if_pos hd]; exact NORMAL_bad r (some ad) n c want xss hc hd w B hB hh
    · rw [if_neg hd]
      by_cases hp : pkS 0 xss = 0
      · rw [if_pos hp]; exact NORMAL_nil r ad n c want xss hn hc hok (by omega) (by omega) hp w B hB hh
      · rw [if_neg hp]; exact NORMAL_ok r ad n c want xss hn hc hok (by omega) (by omega) hp w  B hB hh
  · rw [if_pos hc]; exact NORMAL_chk r A n c want xss hc w B hB hh
end Go.Proofs.YtnhmhjhfoonakaaGreatDoor

/- A sound that is made normal has its peak; done again, it stays: plain. -/
set_option linter.unusedSimpArgs false
set_option linter.unusedVariables false
namespace Go.Proofs.YtnhmhjhfoonakaaGreatDoor
open Go.RowKit Go.Dw
theorem near_scale8 (k x d : Nat) (hk : 0 < k) : (k * x * 2 + k * d) / (k * d * 2) = (x * 2 + d) / (d * 2) := by
  rw [show k * x * 2 + k * d = k * (x * 2 + d) by rw [Nat.mul_add, Nat.mul_assoc], show k * d * 2 = k * (d * 2) by rw [Nat.mul_assoc], Nat.mul_div_mul_left _ _ hk]
theorem nearQ_mkRat8 (z : Int) (d : Nat) (hd : 0 < d) : nearQ (mkRat z d) = nearR z d := by
  obtain ⟨h1, h2⟩ := mkRat_fields z d hd
  have hg : 0 < Nat.gcd z.natAbs d := Nat.gcd_pos_of_pos_right _ hd
  obtain ⟨h3, h4⟩ := div_gcd z (Nat.gcd z.natAbs d) hg (Nat.gcd_dvd_left _ _)
  unfold nearQ nearR
  rw [h1, h2, h3]
  have e1 : z.natAbs = Nat.gcd z.natAbs d * (z.natAbs / Nat.gcd z.natAbs d) := (Nat.mul_div_cancel' (Nat.gcd_dvd_left _ _)).symm
  have e2 : d = Nat.gcd z.natAbs d * (d / Nat.gcd z.natAbs d) := (Nat.mul_div_cancel' (Nat.gcd_dvd_right _ _)).symm
  have e3 := near_scale8 (Nat.gcd z.natAbs d) (z.natAbs / Nat.gcd z.natAbs d) (d / Nat.gcd z.natAbs d) hg
  rw [← e1, ← e2] at e3
  rw [← e3]
  have e4 : (z / (Nat.gcd z.natAbs d : Int) < 0) ↔ z < 0 := decide_eq_decide.1 h4
  by_cases hz : z < 0
  · rw [if_pos hz, if_pos (e4.2 hz)]
  · rw [if_neg hz, if_neg (fun h => hz (e4.1 h))]
theorem near_prod (x a b : Int) (hb : 0 < b) : nearQ ((x : Rat) * ((a : Rat) / b)) = nearR (x * a) b.natAbs := by
  have e : (x : Rat) * ((a : Rat) / b) = mkRat (x * a) b.natAbs := by
    have h := frac_pos (x * a) b hb
    rw [h, Rat.intCast_mul, Rat.div_def, Rat.div_def, Rat.mul_assoc]
  rw [e, nearQ_mkRat8 _ _ (by omega)]
theorem nearR_le {z : Int} {d m : Nat} (hd : 0 < d) (h : z.natAbs ≤ d * m) : (nearR z d).natAbs ≤ m := by
  have h1 : (z.natAbs * 2 + d) / (d * 2) ≤ m := by
    rw [← Nat.lt_succ_iff, Nat.div_lt_iff_lt_mul (by omega)]
    have : (m + 1) * (d * 2) = d * m * 2 + d * 2 := by rw [Nat.add_mul, Nat.one_mul, Nat.mul_comm m, Nat.mul_right_comm]
    rw [Nat.succ_eq_add_one, this]
    omega
  unfold nearR
  split
  · rw [Int.natAbs_neg, Int.natAbs_natCast]; exact h1
  · rw [Int.natAbs_natCast]; exact h1
theorem nearR_eq {z : Int} {d m : Nat} (hd : 0 < d) (h : z.natAbs = d * m) : nearR z d = if z < 0 then -(m : Int) else m := by
  have h1 : (z.natAbs * 2 + d) / (d * 2) = m := by
    rw [h]
    refine Nat.div_eq_of_lt_le ?_ ?_
    · have : m * (d * 2) = d * m * 2 := by rw [Nat.mul_comm m, Nat.mul_right_comm]
      rw [this]; omega
    · have : (m + 1) * (d * 2) = d * m * 2 + d * 2 := by rw [Nat.add_mul, Nat.one_mul, Nat.mul_comm m, Nat.mul_right_comm]
      rw [this]; omega
  unfold nearR
  rw [h1]
theorem absI_nat (x : Int) : absI x = x.natAbs := by unfold absI; omega
theorem pkRow_ge : ∀ (xs : List Int) (m : Int), m ≤ pkRow m xs ∧ ∀ x ∈ xs, absI x ≤ pkRow m xs
  | [], m => ⟨Int.le_refl _, fun x h => by cases h⟩
  | y :: ys, m => by
    have h := pkRow_ge ys (max m (absI y))
    show m ≤ pkRow (max m (absI y)) ys ∧ ∀ x ∈ y :: ys, absI x ≤ pkRow (max m (absI y)) ys
    refine ⟨by omega, fun x hx => ?_⟩
    rcases List.mem_cons.1 hx with rfl | hx
    · omega
    · exact h.2 x hx
theorem pkRow_mem : ∀ (xs : List Int) (m : Int), pkRow m xs = m ∨ ∃ x ∈ xs, absI x = pkRow m xs
  | [], m => .inl rfl
  | y :: ys, m => by
    have h := pkRow_mem ys (max m (absI y))
    show pkRow (max m (absI y)) ys = m ∨ ∃ x ∈ y :: ys, absI x = pkRow (max m (absI y)) ys
    rcases h with h | ⟨x, hx, h⟩
    · rcases Int.le_total m (absI y) with h1 | h1
      · exact .inr ⟨y, by simp, by rw [h]; omega⟩
      · exact .inl (by rw [h]; omega)
    · exact .inr ⟨x, by simp [hx], h⟩
theorem pkS_ge : ∀ (xss : List (List Int)) (m : Int), m ≤ pkS m xss ∧ ∀ t ∈ xss, ∀ x ∈ t, absI x ≤ pkS m xss
  | [], m => ⟨Int.le_refl _, fun t h => by cases h⟩
  | u :: us, m => by
    have h := pkS_ge us (pkRow m u)
    have h1 := pkRow_ge u m
    show m ≤ pkS (pkRow m u) us ∧ ∀ t ∈ u :: us, ∀ x ∈ t, absI x ≤ pkS (pkRow m u) us
    refine ⟨by omega, fun t ht x hx => ?_⟩
    rcases List.mem_cons.1 ht with rfl | ht
    · have := h1.2 x hx; omega
    · exact h.2 t ht x hx
theorem pkS_mem : ∀ (xss : List (List Int)) (m : Int), pkS m xss = m ∨ ∃ t ∈ xss, ∃ x ∈ t, absI x = pkS m xss
  | [], m => .inl rfl
  | u :: us, m => by
    have h := pkS_mem us (pkRow m u)
    show pkS (pkRow m u) us = m ∨ ∃ t ∈ u :: us, ∃ x ∈ t, absI x = pkS (pkRow m u) us
    rcases h with h | ⟨t, ht, x, hx, h⟩
    · rcases pkRow_mem u m with h1 | ⟨x, hx, h1⟩
      · exact .inl (by rw [h, h1])
      · exact .inr ⟨u, by simp, x, hx, by rw [h, h1]⟩
    · exact .inr ⟨t, by simp [ht], x, hx, h⟩
theorem chk_of_ok {r : Int} {xss : List (List Int)} (h : OkS r xss) : chkS r xss = 0 := by
  have h1 := h.few
  have h2 := h.long
  rw [chkS_rows h.rate h.some h1 h2]
  have : ∀ (l : List (List Int)) (m : Nat), (∀ t ∈ l, t.length = m ∧ t.all smpB = true) → chkT m l = 0 := by
    intro l
    induction l with
    | nil => intro m _; rfl
    | cons t ts ih =>
      intro m hm
      obtain ⟨a, b⟩ := hm t (by simp)
      rw [chkT, if_neg (by simp [a]), if_pos b]
      exact ih m (fun u hu => hm u (by simp [hu]))
  exact this xss (len0 xss) h.rows
theorem len0_map (f : Int → Int) (xss : List (List Int)) : len0 (xss.map (List.map f)) = len0 xss := by
  unfold len0
  cases xss with
  | nil => rfl
  | cons t ts => simp
theorem ok_mapped8 {r : Int} {xss : List (List Int)} (h : OkS r xss) (f : Int → Int) (hf : ∀ x, smpB (f x) = true) : OkS r (xss.map (List.map f)) := by
  have hl := len0_map f xss
  refine ⟨h.rate, by simpa using h.some, by simpa using h.few, by rw [hl]; exact h.long, fun t ht => ?_⟩
  obtain ⟨u, hu, rfl⟩ := List.mem_map.1 ht
  rw [hl]
  refine ⟨by rw [List.length_map]; exact (h.rows u hu).1, ?_⟩
  rw [List.all_eq_true]
  intro x hx
  obtain ⟨y, _, rfl⟩ := List.mem_map.1 hx
  exact hf y
theorem gnV_smp (q : Rat) (x : Int) : smpB (gnV q x) = true := smpB_mk (clipV_bd _).1 (clipV_bd _).2
theorem clipV_id {x : Int} (h1 : -8388608 ≤ x) (h2 : x ≤ 8388607) : clipV x = x := by unfold clipV; rw [if_neg (by omega), if_neg (by omega)]
/-- the peak of what is made normal -/
theorem norm_peak {xss : List (List Int)} {want pk : Int} (hpk : pkS 0 xss = pk) (hp : 0 < pk) (h1 : 1 ≤ want) (h2 : want ≤ 8388607) : pkS 0 (xss.map (List.map (gnV ((want : Rat) / pk)))) = want := by
  have key : ∀ x : Int, absI x ≤ pk → absI (gnV ((want : Rat) / pk) x) ≤ want ∧ (absI x = pk → absI (gnV ((want : Rat) / pk) x) = want) := by
    intro x hx
    rw [absI_nat] at hx
    have hz : (x * want).natAbs = x.natAbs * want.natAbs := Int.natAbs_mul _ _
    have hle : (x * want).natAbs ≤ pk.natAbs * want.natAbs := by rw [hz]; exact Nat.mul_le_mul_right _ (by omega)
    have hn := nearR_le (m := want.natAbs) (show 0 < pk.natAbs by omega) hle
    unfold gnV
    rw [near_prod _ _ _ hp]
    have hc : clipV (nearR (x * want) pk.natAbs) = nearR (x * want) pk.natAbs := clipV_id (by omega) (by omega)
    rw [hc]
    refine ⟨by rw [absI_nat]; omega, fun he => ?_⟩
    rw [absI_nat] at he
    have heq : (x * want).natAbs = pk.natAbs * want.natAbs := by rw [hz]; congr 1; omega
    rw [nearR_eq (show 0 < pk.natAbs by omega) heq, absI_nat]
    split <;> omega
  have hge := pkS_ge xss 0
  rw [hpk] at hge
  have hm := pkS_mem (xss.map (List.map (gnV ((want : Rat) / pk)))) 0
  have hg2 := pkS_ge (xss.map (List.map (gnV ((want : Rat) / pk)))) 0
  have hup : pkS 0 (xss.map (List.map (gnV ((want : Rat) / pk)))) ≤ want := by
    rcases hm with h | ⟨t, ht, x, hx, h⟩
    · omega
    · obtain ⟨u, hu, rfl⟩ := List.mem_map.1 ht
      obtain ⟨y, hy, rfl⟩ := List.mem_map.1 hx
      rw [← h]
      exact (key y (hge.2 u hu y hy)).1
  rcases pkS_mem xss 0 with h | ⟨t, ht, x, hx, h⟩
  · omega
  · rw [hpk] at h
    have h3 := (key x (by omega)).2 h
    have h4 := hg2.2 (t.map (gnV ((want : Rat) / pk))) (List.mem_map.2 ⟨t, ht, rfl⟩) (gnV ((want : Rat) / pk) x) (List.mem_map.2 ⟨x, hx, rfl⟩)
    omega
theorem gnV_one {x : Int} (h : smpB x = true) : gnV 1 x = x := by
  obtain ⟨h1, h2⟩ := smpB_yes h
  unfold gnV
  have e : nearQ ((x : Rat) * 1) = x := by
    rw [Rat.mul_one]
    unfold nearQ
    rw [Rat.num_intCast, Rat.den_intCast]
    have : (x.natAbs * 2 + 1) / (1 * 2) = x.natAbs := by omega
    rw [this]
    split <;> omega
  rw [e, clipV_id h1 h2]
theorem map_one {r : Int} {xss : List (List Int)} (h : OkS r xss) : xss.map (List.map (gnV 1)) = xss := by
  conv => rhs; rw [← List.map_id xss]
  refine List.map_congr_left fun t ht => ?_
  show t.map (gnV 1) = t
  conv => rhs; rw [← List.map_id t]
  exact List.map_congr_left fun x hx => gnV_one (h.smp t ht x hx)
theorem div_self1 {a : Int} (h : 1 ≤ a) : (a : Rat) / a = 1 := by
  have : (a : Rat) ≠ 0 := fun h' => by have := congrArg Rat.num h'; rw [Rat.num_intCast, Rat.zero_num] at this; omega
  rw [Rat.div_def, Rat.mul_inv_cancel _ this]
/-- what Normal answers: an error, or a sound with the peak, that stays -/
theorem norm_twice (r : Int) (xss : List (List Int)) (want : Int) :
    ((normS r xss want).flt ≠ 0 ∧ (normS r xss want).rows = []) ∨
    ((normS r xss want).flt = 0 ∧ peakS (normS r xss want).rate (normS r xss want).rows = (want, 0) ∧ normS (normS r xss want).rate (normS r xss want).rows want = ⟨(normS r xss want).rate, (normS r xss want).rows, ⟨#[49]⟩, ⟨#[49]⟩, 0⟩) := by
  by_cases hc : chkS r xss = 0
  · by_cases hb : want < 1 ∨ 8388607 < want
    · refine .inl ?_
      unfold normS
      rw [if_neg (by simp [hc]), if_pos hb]
      exact ⟨by decide, rfl⟩
    · by_cases hp : pkS 0 xss = 0
      · refine .inl ?_
        unfold normS
        rw [if_neg (by simp [hc]), if_neg hb, if_pos hp]
        exact ⟨by decide, rfl⟩
      · refine .inr ?_
        have hok := chkS_ok hc
        have hpos : 0 < pkS 0 xss := by have := (pkS_ge xss 0).1; omega
        have e : normS r xss want = ⟨r, xss.map (List.map (gnV ((want : Rat) / pkS 0 xss))), txN ((want : Rat) / pkS 0 xss), txD ((want : Rat) / pkS 0 xss), 0⟩ := by
          unfold normS
          rw [if_neg (by simp [hc]), if_neg hb, if_neg hp]
        rw [e]
        dsimp only
        have hok2 := ok_mapped8 hok (gnV ((want : Rat) / pkS 0 xss)) (gnV_smp _)
        have hc2 := chk_of_ok hok2
        have hpk2 := norm_peak (xss := xss) (want := want) rfl hpos (by omega) (by omega)
        refine ⟨rfl, ?_, ?_⟩
        · unfold peakS
          rw [if_neg (by simp [hc2]), hpk2]
        · generalize xss.map (List.map (gnV ((want : Rat) / pkS 0 xss))) = yss at hok2 hc2 hpk2 ⊢
          unfold normS
          rw [if_neg (by simp [hc2]), if_neg hb, if_neg (by rw [hpk2]; omega), hpk2, div_self1 (by omega), map_one hok2, tx_one.1, tx_one.2.1]
  · refine .inl ?_
    unfold normS
    rw [if_pos hc]
    exact ⟨hc, rfl⟩
end Go.Proofs.YtnhmhjhfoonakaaGreatDoor

/- Route: what it computes, plain; the sums over one denominator are the sums of the ratios. -/
set_option linter.unusedSimpArgs false
set_option linter.unusedVariables false
namespace Go.Proofs.YtnhmhjhfoonakaaGreatDoor
open Go.RowKit Go.Dw
abbrev Rx := ByteArray × ByteArray
def rxOf (l : List Rx) (k : Nat) : Rx := l.getD k (noB, noB)
def mxOf (m : List (List Rx)) (k : Nat) : List Rx := m.getD k []
/-- the first error of the ratios of a row -/
noncomputable def chkRx : List Rx → Int
  | [] => 0
  | x :: xs => if chkQ x.1 x.2 ≠ 0 then chkQ x.1 x.2 else chkRx xs
noncomputable def chkM (T : Nat) : List (List Rx) → Int
  | [] => 0
  | x :: xs => if x.length ≠ T then 3 else if chkRx x ≠ 0 then chkRx x else chkM T xs
noncomputable def sumQ (row : List Rx) (xss : List (List Int)) (i : Nat) : Nat → Rat
  | 0 => 0
  | u + 1 => sumQ row xss i u + valQ (rxOf row u).1 (rxOf row u).2 * (elOf (rowOf xss u) i : Rat)
noncomputable def rouT (xss : List (List Int)) (m : List (List Rx)) : List (List Int) := mtx (fun t i => nearQ (sumQ (mxOf m t) xss i xss.length)) m.length (len0 xss)
noncomputable def rouS (r : Int) (xss : List (List Int)) (m : List (List Rx)) : Int × List (List Int) × Int × Int :=
  if chkS r xss ≠ 0 then (0, [], 0, chkS r xss) else if m.length < 1 ∨ 16 < m.length then (0, [], 0, 1) else if chkM xss.length m ≠ 0 then (0, [], 0, chkM xss.length m)
  else (r, clipS (rouT xss m), stS clipU 0 (rouT xss m), 0)
theorem drop_rx {l : List Rx} {k : Nat} (hk : k < l.length) : l.drop k = rxOf l k :: l.drop (k + 1) := by
  rw [List.drop_eq_getElem_cons hk]; simp [rxOf, List.getD, List.getElem?_eq_getElem hk]
theorem drop_mx {l : List (List Rx)} {k : Nat} (hk : k < l.length) : l.drop k = mxOf l k :: l.drop (k + 1) := by
  rw [List.drop_eq_getElem_cons hk]; simp [mxOf, List.getD, List.getElem?_eq_getElem hk]
theorem rx_mem {l : List Rx} {k : Nat} (hk : k < l.length) : rxOf l k ∈ l := by
  simp [rxOf, List.getD, List.getElem?_eq_getElem hk]
theorem mx_mem {l : List (List Rx)} {k : Nat} (hk : k < l.length) : mxOf l k ∈ l := by
  simp [mxOf, List.getD, List.getElem?_eq_getElem hk]
theorem chkRx_zero : ∀ {l : List Rx}, chkRx l = 0 → ∀ x ∈ l, chkQ x.1 x.2 = 0
  | [], _, x, hx => by cases hx
  | y :: ys, h, x, hx => by
    unfold chkRx at h
    by_cases h1 : chkQ y.1 y.2 = 0
    · rw [if_neg (by simp [h1])] at h
      rcases List.mem_cons.1 hx with rfl | hx
      · exact h1
      · exact chkRx_zero h x hx
    · rw [if_pos h1] at h; exact absurd h h1
theorem chkM_zero {T : Nat} : ∀ {m : List (List Rx)}, chkM T m = 0 → ∀ row ∈ m, row.length = T ∧ chkRx row = 0
  | [], _, x, hx => by cases hx
  | y :: ys, h, x, hx => by
    unfold chkM at h
    by_cases h1 : y.length = T
    · rw [if_neg (by simp [h1])] at h
      by_cases h2 : chkRx y = 0
      · rw [if_neg (by simp [h2])] at h
        rcases List.mem_cons.1 hx with rfl | hx
        · exact ⟨h1, h2⟩
        · exact chkM_zero h x hx
      · rw [if_pos h2] at h; exact absurd h h2
    · rw [if_pos h1] at h; cases h
theorem chkRx_step {l : List Rx} {k : Nat} (hk : k < l.length) (h : chkQ (rxOf l k).1 (rxOf l k).2 = 0) : chkRx (l.drop k) = chkRx (l.drop (k + 1)) := by
  rw [drop_rx hk, chkRx, if_neg (by simp [h])]
theorem chkRx_bad {l : List Rx} {k : Nat} (hk : k < l.length) (h : chkQ (rxOf l k).1 (rxOf l k).2 ≠ 0) : chkRx (l.drop k) = chkQ (rxOf l k).1 (rxOf l k).2 := by
  rw [drop_rx hk, chkRx, if_pos h]
theorem chkM_step {T : Nat} {m : List (List Rx)} {k : Nat} (hk : k < m.length) (h : (mxOf m k).length = T) (h2 : chkRx (mxOf m k) = 0) : chkM T (m.drop k) = chkM T (m.drop (k + 1)) := by
  rw [drop_mx hk, chkM, if_neg (by simp [h]), if_neg (by simp [h2])]
theorem chkM_len {T : Nat} {m : List (List Rx)} {k : Nat} (hk : k < m.length) (h : (mxOf m k).length ≠ T) : chkM T (m.drop k) = 3 := by
  rw [drop_mx hk, chkM, if_pos h]
theorem chkM_bad {T : Nat} {m : List (List Rx)} {k : Nat} (hk : k < m.length) (h : (mxOf m k).length = T) (h2 : chkRx (mxOf m k) ≠ 0) : chkM T (m.drop k) = chkRx (mxOf m k) := by
  rw [drop_mx hk, chkM, if_neg (by simp [h]), if_pos h2]
/-- one denominator for the first u ratios of a row -/
noncomputable def denK (row : List Rx) : Nat → Nat
  | 0 => 1
  | u + 1 => Nat.lcm (denK row u) (valQ (rxOf row u).1 (rxOf row u).2).den
theorem denK_pos (row : List Rx) : ∀ u, 0 < denK row u
  | 0 => Nat.one_pos
  | u + 1 => Nat.lcm_pos (denK_pos row u) (Rat.den_pos _)
theorem denK_mono (row : List Rx) : ∀ {u v : Nat}, u ≤ v → denK row u ∣ denK row v := by
  intro u v h
  induction v with
  | zero =>
    have h0 : u = 0 := by omega
    subst h0
    exact Nat.dvd_refl _
  | succ v ih =>
    by_cases he : u = v + 1
    · subst he; exact Nat.dvd_refl _
    · exact Nat.dvd_trans (ih (by omega)) (Nat.dvd_lcm_left _ _)
theorem denK_dvd (row : List Rx) {u v : Nat} (h : u < v) : (valQ (rxOf row u).1 (rxOf row u).2).den ∣ denK row v :=
  Nat.dvd_trans (Nat.dvd_lcm_right (denK row u) _) (denK_mono row (show u + 1 ≤ v from h))
/-- what Over leaves of a denominator -/
theorem over_den (D : Nat) (d : Nat) (hD : 0 < D) (hd : 0 < d) : D * ((D : Rat) / (d : Rat)).den = Nat.lcm D d := by
  have e : (D : Rat) / (d : Rat) = mkRat (D : Int) d := by
    have h := frac_pos (D : Int) (d : Int) (by omega)
    rw [show ((d : Int)).natAbs = d by simp] at h
    rw [h]; rfl
  rw [e, (mkRat_fields (D : Int) d hd).2, show ((D : Int)).natAbs = D by simp]
  unfold Nat.lcm
  rw [Nat.mul_div_assoc _ (Nat.gcd_dvd_right D d)]
/-- a ratio's number over the one denominator -/
noncomputable def wholeZ (row : List Rx) (D : Nat) (u : Nat) : Int := (valQ (rxOf row u).1 (rxOf row u).2).num * ((D / (valQ (rxOf row u).1 (rxOf row u).2).den : Nat) : Int)
noncomputable def sumW (row : List Rx) (D : Nat) (xss : List (List Int)) (i : Nat) : Nat → Int
  | 0 => 0
  | u + 1 => sumW row D xss i u + wholeZ row D u * elOf (rowOf xss u) i
theorem natCast_ne {D : Nat} (h : 0 < D) : (D : Rat) ≠ 0 := fun h' => by
  have := congrArg Rat.num h'
  rw [Rat.num_natCast, Rat.zero_num] at this
  omega
theorem whole_val (row : List Rx) {D u : Nat} (hD : 0 < D) (h : (valQ (rxOf row u).1 (rxOf row u).2).den ∣ D) : ((wholeZ row D u : Int) : Rat) = valQ (rxOf row u).1 (rxOf row u).2 * (D : Rat) := by
  unfold wholeZ
  generalize valQ (rxOf row u).1 (rxOf row u).2 = q at h ⊢
  obtain ⟨k, hk⟩ := h
  have hk2 : D / q.den = k := by rw [hk, Nat.mul_div_cancel_left _ q.den_pos]
  have h3 : mkRat q.num q.den = q := Rat.mkRat_self q
  have h4 := frac_pos q.num (q.den : Int) (by have := q.den_pos; omega)
  rw [show ((q.den : Int)).natAbs = q.den by simp, h3, Rat.intCast_natCast] at h4
  have h5 : (q.num : Rat) = q * (q.den : Rat) := by
    have h6 : (q.num : Rat) / (q.den : Rat) * (q.den : Rat) = (q.num : Rat) := by
      rw [Rat.div_def, Rat.mul_assoc, Rat.mul_comm _ (q.den : Rat), Rat.mul_inv_cancel _ (natCast_ne q.den_pos), Rat.mul_one]
    rw [← h4] at h6
    exact h6.symm
  rw [hk2, hk, Rat.intCast_mul, Rat.natCast_mul, h5, Rat.mul_assoc, Rat.intCast_natCast]
theorem sumW_val (row : List Rx) {D : Nat} (hD : 0 < D) (xss : List (List Int)) (i : Nat) : ∀ u, (∀ v, v < u → (valQ (rxOf row v).1 (rxOf row v).2).den ∣ D) → ((sumW row D xss i u : Int) : Rat) = sumQ row xss i u * (D : Rat)
  | 0, _ => by simp [sumW, sumQ]
  | u + 1, h => by
    show ((sumW row D xss i u + wholeZ row D u * elOf (rowOf xss u) i : Int) : Rat) = (sumQ row xss i u + valQ (rxOf row u).1 (rxOf row u).2 * (elOf (rowOf xss u) i : Rat)) * (D : Rat)
    rw [Rat.intCast_add, Rat.intCast_mul, sumW_val row hD xss i u (fun v hv => h v (by omega)), whole_val row hD (h u (by omega)), Rat.add_mul, Rat.mul_assoc, Rat.mul_comm (D : Rat), Rat.mul_assoc]
/-- rounded: the sum over the one denominator is the sum of the ratios -/
theorem near_sum (row : List Rx) (xss : List (List Int)) (i n : Nat) : nearR (sumW row (denK row n) xss i n) (denK row n) = nearQ (sumQ row xss i n) := by
  have hD := denK_pos row n
  rw [← nearQ_mkRat8 _ _ hD]
  congr 1
  have h := frac_pos (sumW row (denK row n) xss i n) (denK row n : Int) (by omega)
  rw [show ((denK row n : Int)).natAbs = denK row n by simp] at h
  rw [h, Rat.intCast_natCast, sumW_val row hD xss i n (fun v hv => denK_dvd row hv), Rat.div_def, Rat.mul_assoc, Rat.mul_inv_cancel _ (natCast_ne hD), Rat.mul_one]
end Go.Proofs.YtnhmhjhfoonakaaGreatDoor

/- Rows of ratios, and rows of such rows, read below a block; rows of whole numbers (num.Int) of the call's own. -/
set_option linter.unusedSimpArgs false
set_option linter.unusedVariables false
namespace Go.Dw
open Go.RowKit
section
variable {k : IntKind} {T T' : TypeId} {b : Nat} {w w' : World} {B n c x : Nat} {A : Option Addr} {xs : List Nat} {row : Option Nat}
theorem TyAt.lt {q : Nat} (h : TyAt T w q) : q < w.heap.size := by
  obtain ⟨cs, fr, h⟩ := h
  exact (Array.getElem?_eq_some_iff.1 h).1
theorem RowAt.grown (h : RowAt k T w B A n xs) (hg : w.grownBy w' row) (hr : ∀ g, row = some g → TyAt T' w g) (hne : T ≠ T') : RowAt k T w' B A n xs :=
  ⟨h.1, fun i hi => by
    obtain ⟨q, o, e, hlt, ht, hc⟩ := h.2 i hi
    have hq : some q ≠ row := fun e9 => by
      obtain ⟨cs, fr, h1⟩ := ht
      obtain ⟨cs', fr', h2⟩ := hr q e9.symm
      rw [h2] at h1
      injection h1 with h1
      injection h1 with _ h3
      exact hne h3.symm
    have hb := hg.block q ht.lt hq
    refine ⟨q, o, e, hlt, ?_, (World.cell?_of_block (w := w) (w' := w') (a := ⟨q, o + i, none⟩) hb).trans hc⟩
    obtain ⟨cs, fr, h1⟩ := ht
    exact ⟨cs, fr, hb.trans h1⟩⟩
theorem NumAt.grown (h : NumAt k T b w B A n c x) (hg : w.grownBy w' row) (hr : ∀ g, row = some g → TyAt T' w g) (hne : T ≠ T') : NumAt k T b w' B A n c x := by
  obtain ⟨h1, h2, xs, h3, h4, h5⟩ := h
  exact ⟨h1, h2, xs, h3, h4, h5.grown hg hr hne⟩
end
end Go.Dw
namespace Go.Proofs.YtnhmhjhfoonakaaGreatDoor
open Go.RowKit Go.Dw
/-- a row of ratios that lies below block B -/
def RatsAt (w : World) (B : Nat) (A : Option Addr) (n : Nat) (l : List Rx) : Prop :=
  l.length = n ∧ ∀ k, k < n → ∃ b o, A = some ⟨b, o, none⟩ ∧ b < B ∧ w.cell? ⟨b, o + k * 2, none⟩ = some (.string (rxOf l k).1) ∧ w.cell? ⟨b, o + k * 2 + 1, none⟩ = some (.string (rxOf l k).2) ∧ (rxOf l k).1.size ≤ maxLen ∧ (rxOf l k).2.size ≤ maxLen
theorem RatsAt.below {w w' : World} {B B' : Nat} {A : Option Addr} {n : Nat} {l : List Rx} (h : RatsAt w B A n l) (hb : Below B' w w') (hB : B ≤ B') : RatsAt w' B A n l :=
  ⟨h.1, fun k hk => by
    obtain ⟨b, o, e, h1, h2, h3, h4⟩ := h.2 k hk
    exact ⟨b, o, e, h1, (hb.cell (p := ⟨b, o + k * 2, none⟩) (by dsimp only; omega)).trans h2, (hb.cell (p := ⟨b, o + k * 2 + 1, none⟩) (by dsimp only; omega)).trans h3, h4⟩⟩
theorem RatsAt.mono {w : World} {B B' : Nat} {A : Option Addr} {n : Nat} {l : List Rx} (h : RatsAt w B A n l) (hB : B ≤ B') : RatsAt w B' A n l :=
  ⟨h.1, fun k hk => by
    obtain ⟨b, o, e, h1, h2⟩ := h.2 k hk
    exact ⟨b, o, e, by omega, h2⟩⟩
theorem RatsAt.nil (w : World) (B : Nat) (A : Option Addr) : RatsAt w B A 0 [] := ⟨rfl, fun k hk => by omega⟩
/-- a row of rows of ratios that lies below block B -/
def MatAt (w : World) (B : Nat) (A : Option Addr) (n : Nat) (m : List (List Rx)) : Prop :=
  m.length = n ∧ ∀ k, k < n → ∃ b o, A = some ⟨b, o, none⟩ ∧ b < B ∧ ∃ A' n' c', w.cell? ⟨b, o + k, none⟩ = some (.slice A' n' c') ∧ n' ≤ c' ∧ c' ≤ maxLen ∧ RatsAt w B A' n' (mxOf m k)
theorem MatAt.below {w w' : World} {B B' : Nat} {A : Option Addr} {n : Nat} {m : List (List Rx)} (h : MatAt w B A n m) (hb : Below B' w w') (hB : B ≤ B') : MatAt w' B A n m :=
  ⟨h.1, fun k hk => by
    obtain ⟨b, o, e, h1, A', n', c', h2, h3, h4, h5⟩ := h.2 k hk
    exact ⟨b, o, e, h1, A', n', c', (hb.cell (p := ⟨b, o + k, none⟩) (by dsimp only; omega)).trans h2, h3, h4, h5.below hb hB⟩⟩
theorem MatAt.mono {w : World} {B B' : Nat} {A : Option Addr} {n : Nat} {m : List (List Rx)} (h : MatAt w B A n m) (hB : B ≤ B') : MatAt w B' A n m :=
  ⟨h.1, fun k hk => by
    obtain ⟨b, o, e, h1, A', n', c', h2, h3, h4, h5⟩ := h.2 k hk
    exact ⟨b, o, e, by omega, A', n', c', h2, h3, h4, h5.mono hB⟩⟩
/-- the cells of whole numbers -/
abbrev Zc := Bool × Option Addr × Nat × Nat
def zcOf (l : List Zc) (k : Nat) : Zc := l.getD k (false, none, 0, 0)
def zcC (z : Zc) : List Value := [.bool z.1, .slice z.2.1 z.2.2.1 z.2.2.2]
def zcsC (l : List Zc) : List Value := (l.map zcC).flatten
theorem zcsC_length : ∀ (bs : List Zc), (zcsC bs).length = bs.length * 2
  | [] => rfl
  | b :: bs => by
    show (zcC b ++ zcsC bs).length = _
    rw [List.length_append, zcsC_length bs, List.length_cons, Nat.succ_mul]; simp [zcC]; omega
theorem zcsC_snoc (bs : List Zc) (b : Zc) : zcsC (bs ++ [b]) = zcsC bs ++ zcC b := by simp [zcsC]
theorem zcsC_get : ∀ {bs : List Zc} {k j : Nat}, k < bs.length → j < 2 → (zcsC bs)[k * 2 + j]? = (zcC (zcOf bs k))[j]?
  | b :: bs, 0, j, _, hj => by
    show (zcC b ++ zcsC bs)[0 * 2 + j]? = _
    rw [List.getElem?_append_left (by simp [zcC]; omega)]; simp [zcOf]
  | b :: bs, k + 1, j, hk, hj => by
    show (zcC b ++ zcsC bs)[(k + 1) * 2 + j]? = _
    rw [List.getElem?_append_right (by simp [zcC]; omega)]
    have : (k + 1) * 2 + j - (zcC b).length = k * 2 + j := by simp [zcC]; omega
    rw [this, zcsC_get (by simpa using hk) hj]
    simp [zcOf]
/-- a row of whole numbers of the call's own: n of them, each of at most L digits -/
structure OwnZ (w : World) (base : Nat) (v : Value) (n L : Nat) (f : Nat → Int) (l : List Zc) : Prop where
  len : l.length = n
  own : w.ownsRow base 46 2 v n (zcsC l)
  num : ∀ k, k < n → IntAt w w.heap.size (zcOf l k).1 (zcOf l k).2.1 (zcOf l k).2.2.1 (zcOf l k).2.2.2 (f k) ∧ (zcOf l k).2.2.1 ≤ L
theorem OwnZ.below {w w' : World} {base : Nat} {v : Value} {n L : Nat} {f : Nat → Int} {l : List Zc} (h : OwnZ w base v n L f l) (hb : Below w.heap.size w w') : OwnZ w' base v n L f l :=
  ⟨h.len, own_below h.own hb, fun k hk => ⟨(h.num k hk).1.to hb (Nat.le_refl _) hb.size, (h.num k hk).2⟩⟩
theorem OwnZ.nil (w : World) (base L : Nat) (f : Nat → Int) : OwnZ w base (.slice none 0 0) 0 L f [] := ⟨rfl, World.ownsRow_nil _ _ _ _, fun k hk => by omega⟩
theorem OwnZ.form {w : World} {base : Nat} {v : Value} {n L : Nat} {f : Nat → Int} {l : List Zc} (h : OwnZ w base v n L f l) : ∃ A c, v = .slice A n c ∧ n ≤ c ∧ c ≤ maxLen := own_form h.own
theorem intn_info : (Tryz.prog.info? 46).map (fun i => (i.zero, i.size, i.bytes)) = some (some (.agg #[.bool false, .slice none 0 0]), 2, 32) := by kernel_rfl
theorem own_ty {w : World} {base : Nat} {e : TypeId} {s : Nat} {v : Value} {n : Nat} {xs : List Value} (h : w.ownsRow base e s v n xs) : ∀ g, v.ownBlock = some g → TyAt e w g := by
  intro g hg
  rcases h.2 with ⟨rfl, _⟩ | ⟨g', cap, cur, rfl, _, hh, _⟩
  · simp [Value.ownBlock] at hg
  · simp only [Value.ownBlock, Option.some.injEq] at hg
    subst hg
    exact ⟨_, _, hh⟩
/-- one more whole number behind them -/
theorem wpList_push_z {ops : Array Oper} {rest : List Oper} {o : Oper} {a : Act} {Q : Exit → Act → World → Prop} {w0 : World} (hgd : o.guard = none) (s x : Operand)
    (ho : o.op = .call { callee := .builtin .append, args := #[s, x], argTypes := #[66, 66] }) (base : Nat) (A : Option Addr) (n c L : Nat) (f : Nat → Int) (l : List Zc) (ng : Bool) (A1 : Option Addr) (n1 c1 : Nat) (g0 : Nat) (hg0 : w0.heap.size = g0)
    (hs : a.eval s = .slice A n c) (hx : a.eval x = .slice (some ⟨g0, 0, none⟩) 1 1) (hown : OwnZ w0 base (.slice A n c) n L f l) (hz : IntAt w0 w0.heap.size ng A1 n1 c1 (f n)) (hL : n1 ≤ L) (hn : n ≤ 1000000) (hb : base ≤ w0.heap.size)
    (h : ∀ g cap w', OwnZ w' base (.slice (some ⟨g, 0, none⟩) (n + 1) cap) (n + 1) L f (l ++ [(ng, A1, n1, c1)]) → Below base w0 w' → (∀ A n c x, NumAt .u32 110 4294967296 w0 w0.heap.size A n c x → NumAt .u32 110 4294967296 w' w'.heap.size A n c x) → wpList Tryz.prog ops Q rest (a.put o.dst (.slice (some ⟨g, 0, none⟩) (n + 1) cap)) w') :
    wpList Tryz.prog ops Q (o :: rest) a (w0.alloc (.cells #[.bool ng, .slice A1 n1 c1] 46)) := by
  obtain ⟨i1, e0, e1, e2, e3⟩ := info_parts intn_info
  subst hg0
  refine wpList_append_lies _ hgd s x 66 ho base 46 i1 _ 2 32 Tryz.underlying66 e0 e1 e2 e3 rfl (by omega) (.slice A n c) n (zcsC l) hs (World.ownsRow.alloc hown.own _) ⟨w0.heap.size, 0, none⟩ 1 1 (zcC (ng, A1, n1, c1)) hx rfl (fun j u hj => ?_) (by intro z hz; simp [zcC] at hz; rcases hz with rfl | rfl <;> rfl) (by omega) (by simp only [maxLen]; omega) (by omega) (by simp; omega) _ rfl ?_
  · rw [show (⟨w0.heap.size, 0, none⟩ : Addr).add j = ⟨w0.heap.size, j, none⟩ by unfold Addr.add; split <;> simp_all, World.cell?_alloc_new]
    simpa [zcC] using hj
  · intro g cap w' h1 h2 _ _
    have hal : Below w0.heap.size w0 (w0.alloc (.cells #[.bool ng, .slice A1 n1 c1] 46)) := (Below.refl _ _).alloc (Nat.le_refl _) _
    have hsz : w0.heap.size ≤ w'.heap.size := Nat.le_trans hal.size h2.size
    refine h g cap w' ⟨by simp [hown.len], by rw [zcsC_snoc]; exact h1, fun k hk => ?_⟩ ((((Below.refl base w0).alloc hb _).grown h2 (by simp; omega) (fun b e => (own_lt hown.own e).1))) (fun A n c x hi => ((hi.below hal (Nat.le_refl _)).grown h2 (fun g hg => (own_ty hown.own g hg).below hal (own_lt hown.own hg).2) (by decide)).mono hsz)
    have hty : ∀ g, (Value.slice A n c).ownBlock = some g → TyAt 46 (w0.alloc (.cells #[.bool ng, .slice A1 n1 c1] 46)) g := fun g hg => (own_ty hown.own g hg).below hal (own_lt hown.own hg).2
    have up : ∀ {g : Bool} {A : Option Addr} {n c : Nat} {z : Int}, IntAt w0 w0.heap.size g A n c z → IntAt w' w'.heap.size g A n c z := fun {g A n c z} hi =>
      ⟨hi.1, ((hi.2.below hal (Nat.le_refl _)).grown h2 hty (by decide)).mono hsz⟩
    by_cases hkn : k < n
    · have e : zcOf (l ++ [(ng, A1, n1, c1)]) k = zcOf l k := by simp [zcOf, List.getD, List.getElem?_append_left (show k < l.length by rw [hown.len]; exact hkn)]
      rw [e]
      exact ⟨up (hown.num k hkn).1, (hown.num k hkn).2⟩
    · obtain rfl : k = n := by omega
      have e : zcOf (l ++ [(ng, A1, n1, c1)]) k = (ng, A1, n1, c1) := by rw [← hown.len]; simp [zcOf, List.getD]
      rw [e]
      exact ⟨up hz, hL⟩
end Go.Proofs.YtnhmhjhfoonakaaGreatDoor
