/- RatiosMatchSpec, walked. -/
import Derived.Test.YtcjdmffflepplaaGreatDoorLsb
import Derived.Test.YtcjdmffflepplaaGreatDoorRs
import Derived.Test.YtcjdmffflepplaaGreatDoorRu
import Derived.Test.YtcjdmffflepplaaGreatDoorAwk
set_option linter.unusedSimpArgs false
set_option linter.unusedVariables false
namespace Go.Proofs.YtcjdmffflepplaaGreatDoor
open Go.RowKit Go.Dw Go.Joins
theorem RBox.set2 {w : World} {g : Nat} {s t : ByteArray} (h : RBox w g s t) (s' t' : ByteArray) : RBox ((w.setCell ⟨g, 0, none⟩ (.string s')).setCell ⟨g, 1, none⟩ (.string t')) g s' t' := by
  have h0 : w.heap[g]? = some (.cells #[.string s, .string t] 28 (0, 0)) := h
  show _ = _
  simp only [World.setCell, Array.getElem?_modify, h0]
  simp
theorem RBox.far {w : World} {g : Nat} {s t : ByteArray} (h : RBox w g s t) (g' : Nat) (hne : g ≠ g') (u u' : Value) : RBox ((w.setCell ⟨g', 0, none⟩ u).setCell ⟨g', 1, none⟩ u') g s t :=
  (Below.heap_setCell _ ⟨g', 1, none⟩ u' g hne).trans ((Below.heap_setCell w ⟨g', 0, none⟩ u g hne).trans h)
theorem r6_keep {W w1 : World} {a b c : Nat} {v0 v1 v2 v3 v4 v5 : Value} (h : W.cell? ⟨a, 0, none⟩ = some v0 ∧ W.cell? ⟨a, 1, none⟩ = some v1 ∧ W.cell? ⟨b, 0, none⟩ = some v2 ∧ W.cell? ⟨b, 1, none⟩ = some v3 ∧ W.cell? ⟨c, 0, none⟩ = some v4 ∧ W.cell? ⟨c, 1, none⟩ = some v5)
    (hb : Below W.heap.size W w1) (ha : a < W.heap.size) (hbb : b < W.heap.size) (hc : c < W.heap.size) : w1.cell? ⟨a, 0, none⟩ = some v0 ∧ w1.cell? ⟨a, 1, none⟩ = some v1 ∧ w1.cell? ⟨b, 0, none⟩ = some v2 ∧ w1.cell? ⟨b, 1, none⟩ = some v3 ∧ w1.cell? ⟨c, 0, none⟩ = some v4 ∧ w1.cell? ⟨c, 1, none⟩ = some v5 :=
  ⟨(hb.cell (p := ⟨a, 0, none⟩) ha).trans h.1, (hb.cell (p := ⟨a, 1, none⟩) ha).trans h.2.1, (hb.cell (p := ⟨b, 0, none⟩) hbb).trans h.2.2.1, (hb.cell (p := ⟨b, 1, none⟩) hbb).trans h.2.2.2.1, (hb.cell (p := ⟨c, 0, none⟩) hc).trans h.2.2.2.2.1, (hb.cell (p := ⟨c, 1, none⟩) hc).trans h.2.2.2.2.2⟩
set_option maxRecDepth 100000 in
set_option maxHeartbeats 8000000 in
theorem lawRs_walk (s1 t1 s2 t2 : ByteArray) (z1 : s1.size ≤ maxLen) (y1 : t1.size ≤ maxLen) (z2 : s2.size ≤ maxLen) (y2 : t2.size ≤ maxLen) (w : World) (ht : Hid (TabAt w)) :
    Calls Tryz.prog 5 #[.agg #[.string s1, .string t1], .agg #[.string s2, .string t2]] w fun e w' => e = .returned (.bool true) ∧ Below w.heap.size w w' := by
    obtain ⟨W, gx, hW, hgx, HHW, HB, HSW⟩ := boxes2 w (.cells #[.string s1, .string t1] 28) (.cells #[.string s2, .string t2] 28)
    have HGX := Lib.hid hgx
    have BA : Hid (RBox W gx s1 t1) := HHW.out.1
    have BB : Hid (RBox W (gx + 1) s2 t2) := HHW.out.2
    have hgw := blk_lt HHW.out.2
    clear HSW
    go_enter Tryz.func5, Tryz.ntmps5
    go_upto_region 1 with (fail)
    rw [← hW, ← hgx]
    clear hW hgx HHW
    obtain ⟨⟨S1, T1, f1⟩, he1⟩ : ∃ p, sumS s1 t1 s2 t2 = p := ⟨_, rfl⟩
    have E1 := Lib.hid he1
    clear he1
    obtain ⟨⟨S2, T2, f2⟩, he2⟩ : ∃ p, prodS s1 t1 s2 t2 = p := ⟨_, rfl⟩
    have E2 := Lib.hid he2
    clear he2
    obtain ⟨⟨S3, T3, f3⟩, he3⟩ : ∃ p, invS s1 t1 = p := ⟨_, rfl⟩
    have E3 := Lib.hid he3
    clear he3
    obtain ⟨⟨od, fo⟩, he4⟩ : ∃ p, ordS s1 t1 s2 t2 = p := ⟨_, rfl⟩
    have E4 := Lib.hid he4
    clear he4
    obtain ⟨k, hk⟩ : ∃ k, chkQ s1 t1 = k := ⟨_, rfl⟩
    have EK := Lib.hid hk
    clear hk
    obtain ⟨BAc0, BAc1, _, _⟩ := two_cells BA.out
    obtain ⟨BBc0, BBc1, _, _⟩ := two_cells BB.out
    go_wp2_with fail
    refine (SUM_any s1 t1 s2 t2 z1 y1 z2 y2 _).mono ?_
    rintro e w1 ⟨rfl, hb1⟩
    rw [E1.out]
    unfold tup3
    dsimp only
    clear BAc0 BAc1
    clear BBc0 BBc1
    replace BA := Lib.hid (BA.out.below hb1)
    replace BB := Lib.hid (BB.out.below hb1)
    replace HB := Lib.hid (HB.out.trans (hb1.mono HB.out.size))
    clear hb1
    go_upto_region 2 with (fail)
    have hw1 : gx + 1 < w1.heap.size := blk_lt BB.out
    obtain ⟨X1, g1, hX, hg, B1, HBX, _⟩ := cell_new w1 28 #[.string S1, .string T1]
    rw [← hX, ← hg]
    replace BA := Lib.hid (BA.out.below (HBX.out.mono (Nat.le_refl _)))
    replace BB := Lib.hid (BB.out.below (HBX.out.mono (Nat.le_refl _)))
    replace HB := Lib.hid (HB.out.trans (HBX.out.mono HB.out.size))
    replace B1 : Hid (RBox X1 g1 S1 T1) := B1
    have hg1 : gx + 1 < g1 := by rw [hg]; exact hw1
    clear hX hg HBX hw1
    obtain ⟨BAc0, BAc1, _, _⟩ := two_cells BA.out
    obtain ⟨BBc0, BBc1, _, _⟩ := two_cells BB.out
    go_wp2_with fail
    refine (RSUM_any s1 t1 s2 t2 z1 y1 z2 y2 _ (Lib.hid (ht.out.below HB.out))).mono ?_
    rintro e w2 ⟨rfl, hb2⟩
    rw [E1.out]
    unfold tup3
    dsimp only
    clear BAc0 BAc1
    clear BBc0 BBc1
    replace BA := Lib.hid (BA.out.below hb2)
    replace BB := Lib.hid (BB.out.below hb2)
    replace B1 := Lib.hid (B1.out.below hb2)
    replace HB := Lib.hid (HB.out.trans (hb2.mono HB.out.size))
    clear hb2
    go_upto_region 3 with (fail)
    have hw2 : g1 < w2.heap.size := blk_lt B1.out
    obtain ⟨X2, g2, hX, hg, B2, HBX, _⟩ := cell_new w2 28 #[.string S1, .string T1]
    rw [← hX, ← hg]
    replace BA := Lib.hid (BA.out.below (HBX.out.mono (Nat.le_refl _)))
    replace BB := Lib.hid (BB.out.below (HBX.out.mono (Nat.le_refl _)))
    replace B1 := Lib.hid (B1.out.below (HBX.out.mono (Nat.le_refl _)))
    replace HB := Lib.hid (HB.out.trans (HBX.out.mono HB.out.size))
    replace B2 : Hid (RBox X2 g2 S1 T1) := B2
    have hg2 : g1 < g2 := by rw [hg]; exact hw2
    clear hX hg HBX hw2
    have HNE : Hid (g1 < g2 ∧ gx + 1 < g1) := ⟨hg2, hg1⟩
    have hwg : w.heap.size ≤ g1 := by have := HGX.out; omega
    obtain ⟨BAc0, BAc1, _, _⟩ := two_cells BA.out
    obtain ⟨B1c0, B1c1, _, _⟩ := two_cells B1.out
    obtain ⟨B2c0, B2c1, _, _⟩ := two_cells B2.out
    have hlA := blk_lt BA.out
    have hl1 := blk_lt B1.out
    have hl2 := blk_lt B2.out
    obtain ⟨W3, rfl⟩ : ∃ x : World, x = X2 := ⟨_, rfl⟩
    refine wp_region_text 15 (fun x => x.cell? ⟨gx, 0, none⟩ = some (.string s1) ∧ x.cell? ⟨gx, 1, none⟩ = some (.string t1) ∧ x.cell? ⟨g1, 0, none⟩ = some (.string S1) ∧ x.cell? ⟨g1, 1, none⟩ = some (.string T1) ∧ x.cell? ⟨g2, 0, none⟩ = some (.string S1) ∧ x.cell? ⟨g2, 1, none⟩ = some (.string T1)) (by kernel_rfl) (by kernel_rfl) ?_
    have hS : W3.drew.cell? ⟨gx, 0, none⟩ = some (.string s1) ∧ W3.drew.cell? ⟨gx, 1, none⟩ = some (.string t1) ∧ W3.drew.cell? ⟨g1, 0, none⟩ = some (.string S1) ∧ W3.drew.cell? ⟨g1, 1, none⟩ = some (.string T1) ∧ W3.drew.cell? ⟨g2, 0, none⟩ = some (.string S1) ∧ W3.drew.cell? ⟨g2, 1, none⟩ = some (.string T1) := ⟨BAc0, BAc1, B1c0, B1c1, B2c0, B2c1⟩
    have hS0 := And.intro BAc0 (And.intro BAc1 (And.intro B1c0 (And.intro B1c1 (And.intro B2c0 B2c1))))
    clear BAc0 BAc1 B1c0 B1c1 B2c0 B2c1
    refine HT.load (i := 0) (oi := _) (v := ?_) rfl (by kernel_rfl) (by kernel_rfl) (by decide) (fun _ _ _ h => h) (by kernel_rfl) (Or.inl ⟨by rfl, ?_⟩) hS ?_
    rotate_left
    · intro wz hwz
      try dsimp only at hwz
      go_simp
      try with_reducible rfl
    simp only [List.getElem_toArray, List.getElem_cons_succ, List.getElem_cons_zero, Act.put, List.setIfInBounds_toArray, List.set_cons_zero, List.set_cons_succ]
    refine HT.load (i := 2) (oi := _) (v := ?_) rfl (by kernel_rfl) (by kernel_rfl) (by decide) (fun _ _ _ h => h) (by kernel_rfl) (Or.inl ⟨by rfl, ?_⟩) hS ?_
    rotate_left
    · intro wz hwz
      try dsimp only at hwz
      go_simp
      try with_reducible rfl
    simp only [List.getElem_toArray, List.getElem_cons_succ, List.getElem_cons_zero, Act.put, List.setIfInBounds_toArray, List.set_cons_zero, List.set_cons_succ]
    refine HT.one (i := 1) (o := _) rfl (by kernel_rfl) (by decide) (by rfl) ?_
    intro K hK
    go_simp
    refine (CHECKRATIO_any s1 t1 z1 y1 _).mono ?_
    rintro e w4 ⟨rfl, hb4⟩
    replace hb4 : Below W3.heap.size W3 w4 := below_undrew hb4
    rw [EK.out]
    have HB4 := Lib.hid hb4
    clear hb4
    refine hK.out _ _ (r6_keep hS0 HB4.out hlA hl1 hl2) ?_
    clear hK K hS
    have hS := r6_keep hS0 HB4.out hlA hl1 hl2
    try simp only [List.getElem_toArray, List.getElem_cons_succ, List.getElem_cons_zero, Act.put, List.setIfInBounds_toArray, List.set_cons_zero, List.set_cons_succ]
    refine HT.one (i := 3) (o := _) rfl (by kernel_rfl) (by decide) (by rfl) ?_
    intro K hK
    go_simp
    refine (RCHECKRATIO_any s1 t1 z1 y1 _).mono ?_
    rintro e w5 ⟨rfl, hb5⟩
    rw [EK.out]
    have HB5 := Lib.hid (HB4.out.trans (hb5.mono HB4.out.size))
    clear hb5
    refine hK.out _ _ (r6_keep hS0 HB5.out hlA hl1 hl2) ?_
    clear hK K hS
    have hS := r6_keep hS0 HB5.out hlA hl1 hl2
    try simp only [List.getElem_toArray, List.getElem_cons_succ, List.getElem_cons_zero, Act.put, List.setIfInBounds_toArray, List.set_cons_zero, List.set_cons_succ]
    refine HT.take (i := 4) (oi := _) (v := ?_) rfl (by kernel_rfl) (by kernel_rfl) (by decide) (fun _ _ _ h => h) (Or.inl ⟨by rfl, ?_⟩) hS ?_
    rotate_left
    · intro wz
      go_simp
      try with_reducible rfl
    simp only [List.getElem_toArray, List.getElem_cons_succ, List.getElem_cons_zero, Act.put, List.setIfInBounds_toArray, List.set_cons_zero, List.set_cons_succ]
    refine HT.take (i := 5) (oi := _) (v := ?_) rfl (by kernel_rfl) (by kernel_rfl) (by decide) (fun _ _ _ h => h) (Or.inl ⟨by rfl, ?_⟩) hS ?_
    rotate_left
    · intro wz
      go_simp
      try with_reducible rfl
    simp only [List.getElem_toArray, List.getElem_cons_succ, List.getElem_cons_zero, Act.put, List.setIfInBounds_toArray, List.set_cons_zero, List.set_cons_succ]
    refine HT.load (i := 6) (oi := _) (v := ?_) rfl (by kernel_rfl) (by kernel_rfl) (by decide) (fun _ _ _ h => h) (by kernel_rfl) (Or.inl ⟨by rfl, ?_⟩) hS ?_
    rotate_left
    · intro wz hwz
      try dsimp only at hwz
      go_simp
      try with_reducible rfl
    simp only [List.getElem_toArray, List.getElem_cons_succ, List.getElem_cons_zero, Act.put, List.setIfInBounds_toArray, List.set_cons_zero, List.set_cons_succ]
    refine HT.load (i := 7) (oi := _) (v := ?_) rfl (by kernel_rfl) (by kernel_rfl) (by decide) (fun _ _ _ h => h) (by kernel_rfl) (Or.inl ⟨by rfl, ?_⟩) hS ?_
    rotate_left
    · intro wz hwz
      try dsimp only at hwz
      go_simp
      try with_reducible rfl
    simp only [List.getElem_toArray, List.getElem_cons_succ, List.getElem_cons_zero, Act.put, List.setIfInBounds_toArray, List.set_cons_zero, List.set_cons_succ]
    refine HT.take (i := 8) (oi := _) (v := ?_) rfl (by kernel_rfl) (by kernel_rfl) (by decide) (fun _ _ _ h => h) (Or.inl ⟨by rfl, ?_⟩) hS ?_
    rotate_left
    · intro wz
      go_simp
      try with_reducible rfl
    simp only [List.getElem_toArray, List.getElem_cons_succ, List.getElem_cons_zero, Act.put, List.setIfInBounds_toArray, List.set_cons_zero, List.set_cons_succ]
    refine HT.take (i := 9) (oi := _) (v := ?_) rfl (by kernel_rfl) (by kernel_rfl) (by decide) (fun _ _ _ h => h) (Or.inl ⟨by rfl, ?_⟩) hS ?_
    rotate_left
    · intro wz
      go_simp
      try with_reducible rfl
    simp only [List.getElem_toArray, List.getElem_cons_succ, List.getElem_cons_zero, Act.put, List.setIfInBounds_toArray, List.set_cons_zero, List.set_cons_succ]
    refine HT.take (i := 10) (oi := _) (v := ?_) rfl (by kernel_rfl) (by kernel_rfl) (by decide) (fun _ _ _ h => h) (Or.inl ⟨by rfl, ?_⟩) hS ?_
    rotate_left
    · intro wz
      go_simp
      try with_reducible rfl
    simp only [List.getElem_toArray, List.getElem_cons_succ, List.getElem_cons_zero, Act.put, List.setIfInBounds_toArray, List.set_cons_zero, List.set_cons_succ]
    refine HT.take (i := 11) (oi := _) (v := ?_) rfl (by kernel_rfl) (by kernel_rfl) (by decide) (fun _ _ _ h => h) (Or.inl ⟨by rfl, ?_⟩) hS ?_
    rotate_left
    · intro wz
      go_simp
      try with_reducible rfl
    simp only [List.getElem_toArray, List.getElem_cons_succ, List.getElem_cons_zero, Act.put, List.setIfInBounds_toArray, List.set_cons_zero, List.set_cons_succ]
    refine HT.take (i := 12) (oi := _) (v := ?_) rfl (by kernel_rfl) (by kernel_rfl) (by decide) (fun _ _ _ h => h) (Or.inl ⟨by rfl, ?_⟩) hS ?_
    rotate_left
    · intro wz
      go_simp
      try with_reducible rfl
    simp only [List.getElem_toArray, List.getElem_cons_succ, List.getElem_cons_zero, Act.put, List.setIfInBounds_toArray, List.set_cons_zero, List.set_cons_succ]
    refine HT.take (i := 13) (oi := _) (v := ?_) rfl (by kernel_rfl) (by kernel_rfl) (by decide) (fun _ _ _ h => h) (Or.inl ⟨by rfl, ?_⟩) hS ?_
    rotate_left
    · intro wz
      go_simp
      try with_reducible rfl
    simp only [List.getElem_toArray, List.getElem_cons_succ, List.getElem_cons_zero, Act.put, List.setIfInBounds_toArray, List.set_cons_zero, List.set_cons_succ]
    refine HT.take (i := 14) (oi := _) (v := ?_) rfl (by kernel_rfl) (by kernel_rfl) (by decide) (fun _ _ _ h => h) (Or.inl ⟨by rfl, ?_⟩) hS ?_
    rotate_left
    · intro wz
      go_simp
      try with_reducible rfl
    simp only [List.getElem_toArray, List.getElem_cons_succ, List.getElem_cons_zero, Act.put, List.setIfInBounds_toArray, List.set_cons_zero, List.set_cons_succ]
    obtain ⟨z0, _⟩ := hS
    have hS := z0
    refine HT.done (by kernel_rfl) ?_
    clear hS
    simp only [List.drop_succ_cons, List.drop_zero]
    replace BA := Lib.hid (BA.out.below HB5.out)
    replace BB := Lib.hid (BB.out.below HB5.out)
    replace B1 := Lib.hid (B1.out.below HB5.out)
    replace B2 := Lib.hid (B2.out.below HB5.out)
    replace HB := Lib.hid (HB.out.trans (HB5.out.mono HB.out.size))
    clear hS0 z0 hlA hl1 hl2 HB4 HB5
    obtain ⟨BAc0, BAc1, _, _⟩ := two_cells BA.out
    obtain ⟨BBc0, BBc1, _, _⟩ := two_cells BB.out
    go_wp2_with fail
    refine (PRODUCT_any s1 t1 s2 t2 z1 y1 z2 y2 _).mono ?_
    rintro e w6 ⟨rfl, hb6⟩
    rw [E2.out]
    unfold tup3
    dsimp only
    clear BAc0 BAc1
    clear BBc0 BBc1
    replace BA := Lib.hid (BA.out.below hb6)
    replace BB := Lib.hid (BB.out.below hb6)
    replace B1 := Lib.hid (B1.out.below hb6)
    replace B2 := Lib.hid (B2.out.below hb6)
    replace HB := Lib.hid (HB.out.trans (hb6.mono HB.out.size))
    clear hb6
    obtain ⟨B1c0, B1c1, B1f0, B1f1⟩ := two_cells B1.out
    go_upto_region 6 with (fail)
    clear B1c0 B1c1 B1f0 B1f1
    obtain ⟨X6, hX⟩ : ∃ X, X = (w6.setCell ⟨g1, 0, none⟩ (.string S2)).setCell ⟨g1, 1, none⟩ (.string T2) := ⟨_, rfl⟩
    have NBA := Lib.hid (BA.out.far g1 (by first | omega | (have := HNE.out; omega)) (.string S2) (.string T2))
    rw [← hX] at NBA
    have NBB := Lib.hid (BB.out.far g1 (by first | omega | (have := HNE.out; omega)) (.string S2) (.string T2))
    rw [← hX] at NBB
    have NB1 : Hid (RBox X6 g1 S2 T2) := by rw [hX]; exact B1.out.set2 _ _
    have NB2 := Lib.hid (B2.out.far g1 (by first | omega | (have := HNE.out; omega)) (.string S2) (.string T2))
    rw [← hX] at NB2
    have NHB : Hid (Below w.heap.size w X6) := by show Below _ _ _; rw [hX]; exact set2_below' HB.out (by omega)
    rw [← hX]
    clear hX HB BA BB B1 B2
    have BA := NBA
    have BB := NBB
    have B1 := NB1
    have B2 := NB2
    have HB := NHB
    clear NHB NBA NBB NB1 NB2
    obtain ⟨BAc0, BAc1, _, _⟩ := two_cells BA.out
    obtain ⟨BBc0, BBc1, _, _⟩ := two_cells BB.out
    go_wp2_with fail
    refine (RPRODUCT_any s1 t1 s2 t2 z1 y1 z2 y2 _ (Lib.hid (ht.out.below HB.out))).mono ?_
    rintro e w7 ⟨rfl, hb7⟩
    rw [E2.out]
    unfold tup3
    dsimp only
    clear BAc0 BAc1
    clear BBc0 BBc1
    replace BA := Lib.hid (BA.out.below hb7)
    replace BB := Lib.hid (BB.out.below hb7)
    replace B1 := Lib.hid (B1.out.below hb7)
    replace B2 := Lib.hid (B2.out.below hb7)
    replace HB := Lib.hid (HB.out.trans (hb7.mono HB.out.size))
    clear hb7
    obtain ⟨B2c0, B2c1, B2f0, B2f1⟩ := two_cells B2.out
    go_upto_region 7 with (fail)
    clear B2c0 B2c1 B2f0 B2f1
    obtain ⟨X7, hX⟩ : ∃ X, X = (w7.setCell ⟨g2, 0, none⟩ (.string S2)).setCell ⟨g2, 1, none⟩ (.string T2) := ⟨_, rfl⟩
    have NBA := Lib.hid (BA.out.far g2 (by first | omega | (have := HNE.out; omega)) (.string S2) (.string T2))
    rw [← hX] at NBA
    have NBB := Lib.hid (BB.out.far g2 (by first | omega | (have := HNE.out; omega)) (.string S2) (.string T2))
    rw [← hX] at NBB
    have NB1 := Lib.hid (B1.out.far g2 (by first | omega | (have := HNE.out; omega)) (.string S2) (.string T2))
    rw [← hX] at NB1
    have NB2 : Hid (RBox X7 g2 S2 T2) := by rw [hX]; exact B2.out.set2 _ _
    have NHB : Hid (Below w.heap.size w X7) := by show Below _ _ _; rw [hX]; exact set2_below' HB.out (by omega)
    rw [← hX]
    clear hX HB BA BB B1 B2
    have BA := NBA
    have BB := NBB
    have B1 := NB1
    have B2 := NB2
    have HB := NHB
    clear NHB NBA NBB NB1 NB2
    obtain ⟨B1c0, B1c1, _, _⟩ := two_cells B1.out
    obtain ⟨B2c0, B2c1, _, _⟩ := two_cells B2.out
    go_upto_region 9 with (fail)
    clear B1c0 B1c1
    clear B2c0 B2c1
    obtain ⟨BAc0, BAc1, _, _⟩ := two_cells BA.out
    go_wp2_with fail
    refine (INVERSE_any s1 t1 z1 y1 _).mono ?_
    rintro e w8 ⟨rfl, hb8⟩
    rw [E3.out]
    unfold tup3
    dsimp only
    clear BAc0 BAc1
    replace BA := Lib.hid (BA.out.below hb8)
    replace BB := Lib.hid (BB.out.below hb8)
    replace B1 := Lib.hid (B1.out.below hb8)
    replace B2 := Lib.hid (B2.out.below hb8)
    replace HB := Lib.hid (HB.out.trans (hb8.mono HB.out.size))
    clear hb8
    obtain ⟨B1c0, B1c1, B1f0, B1f1⟩ := two_cells B1.out
    go_upto_region 10 with (fail)
    clear B1c0 B1c1 B1f0 B1f1
    obtain ⟨X8, hX⟩ : ∃ X, X = (w8.setCell ⟨g1, 0, none⟩ (.string S3)).setCell ⟨g1, 1, none⟩ (.string T3) := ⟨_, rfl⟩
    have NBA := Lib.hid (BA.out.far g1 (by first | omega | (have := HNE.out; omega)) (.string S3) (.string T3))
    rw [← hX] at NBA
    have NBB := Lib.hid (BB.out.far g1 (by first | omega | (have := HNE.out; omega)) (.string S3) (.string T3))
    rw [← hX] at NBB
    have NB1 : Hid (RBox X8 g1 S3 T3) := by rw [hX]; exact B1.out.set2 _ _
    have NB2 := Lib.hid (B2.out.far g1 (by first | omega | (have := HNE.out; omega)) (.string S3) (.string T3))
    rw [← hX] at NB2
    have NHB : Hid (Below w.heap.size w X8) := by show Below _ _ _; rw [hX]; exact set2_below' HB.out (by omega)
    rw [← hX]
    clear hX HB BA BB B1 B2
    have BA := NBA
    have BB := NBB
    have B1 := NB1
    have B2 := NB2
    have HB := NHB
    clear NHB NBA NBB NB1 NB2
    obtain ⟨BAc0, BAc1, _, _⟩ := two_cells BA.out
    go_wp2_with fail
    refine (RINVERSE_any s1 t1 z1 y1 _ (Lib.hid (ht.out.below HB.out))).mono ?_
    rintro e w9 ⟨rfl, hb9⟩
    rw [E3.out]
    unfold tup3
    dsimp only
    clear BAc0 BAc1
    replace BA := Lib.hid (BA.out.below hb9)
    replace BB := Lib.hid (BB.out.below hb9)
    replace B1 := Lib.hid (B1.out.below hb9)
    replace B2 := Lib.hid (B2.out.below hb9)
    replace HB := Lib.hid (HB.out.trans (hb9.mono HB.out.size))
    clear hb9
    obtain ⟨B2c0, B2c1, B2f0, B2f1⟩ := two_cells B2.out
    go_upto_region 11 with (fail)
    clear B2c0 B2c1 B2f0 B2f1
    obtain ⟨X9, hX⟩ : ∃ X, X = (w9.setCell ⟨g2, 0, none⟩ (.string S3)).setCell ⟨g2, 1, none⟩ (.string T3) := ⟨_, rfl⟩
    have NBA := Lib.hid (BA.out.far g2 (by first | omega | (have := HNE.out; omega)) (.string S3) (.string T3))
    rw [← hX] at NBA
    have NBB := Lib.hid (BB.out.far g2 (by first | omega | (have := HNE.out; omega)) (.string S3) (.string T3))
    rw [← hX] at NBB
    have NB1 := Lib.hid (B1.out.far g2 (by first | omega | (have := HNE.out; omega)) (.string S3) (.string T3))
    rw [← hX] at NB1
    have NB2 : Hid (RBox X9 g2 S3 T3) := by rw [hX]; exact B2.out.set2 _ _
    have NHB : Hid (Below w.heap.size w X9) := by show Below _ _ _; rw [hX]; exact set2_below' HB.out (by omega)
    rw [← hX]
    clear hX HB BA BB B1 B2
    have BA := NBA
    have BB := NBB
    have B1 := NB1
    have B2 := NB2
    have HB := NHB
    clear NHB NBA NBB NB1 NB2
    obtain ⟨BAc0, BAc1, _, _⟩ := two_cells BA.out
    obtain ⟨BBc0, BBc1, _, _⟩ := two_cells BB.out
    go_wp2_with fail
    refine (ORDER_any s1 t1 s2 t2 z1 y1 z2 y2 _).mono ?_
    rintro e w10 ⟨rfl, hb10⟩
    rw [E4.out]
    clear BAc0 BAc1
    clear BBc0 BBc1
    replace BA := Lib.hid (BA.out.below hb10)
    replace BB := Lib.hid (BB.out.below hb10)
    replace B1 := Lib.hid (B1.out.below hb10)
    replace B2 := Lib.hid (B2.out.below hb10)
    replace HB := Lib.hid (HB.out.trans (hb10.mono HB.out.size))
    clear hb10
    dsimp only
    obtain ⟨BAc0, BAc1, _, _⟩ := two_cells BA.out
    obtain ⟨BBc0, BBc1, _, _⟩ := two_cells BB.out
    go_wp2_with fail
    refine (RORDER_any s1 t1 s2 t2 z1 y1 z2 y2 _).mono ?_
    rintro e w11 ⟨rfl, hb11⟩
    rw [E4.out]
    clear BAc0 BAc1
    clear BBc0 BBc1
    replace BA := Lib.hid (BA.out.below hb11)
    replace BB := Lib.hid (BB.out.below hb11)
    replace B1 := Lib.hid (B1.out.below hb11)
    replace B2 := Lib.hid (B2.out.below hb11)
    replace HB := Lib.hid (HB.out.trans (hb11.mono HB.out.size))
    clear hb11
    dsimp only
    obtain ⟨B1c0, B1c1, _, _⟩ := two_cells B1.out
    obtain ⟨B2c0, B2c1, _, _⟩ := two_cells B2.out
    go_wp2_with fail
    refine (AWAKE_any _).mono ?_
    rintro e w12 ⟨rfl, hb12⟩
    replace HB := Lib.hid (HB.out.trans (hb12.mono HB.out.size))
    clear hb12
    go_wp2_with fail
    go_ret
    exact ⟨rfl, HB.out⟩
end Go.Proofs.YtcjdmffflepplaaGreatDoor
