/- The document's Sum, Product. -/
import Derived.Test.YtcjdmffflepplaaGreatDoorRr
set_option linter.unusedSimpArgs false
set_option linter.unusedVariables false
namespace Go.Proofs.YtcjdmffflepplaaGreatDoor
open Go.RowKit Go.Dw Go.Joins
set_option maxRecDepth 100000 in
set_option maxHeartbeats 2000000 in
theorem RSUM_any (s t s' t' : ByteArray) (hs : s.size ≤ maxLen) (ht : t.size ≤ maxLen) (hs' : s'.size ≤ maxLen) (ht' : t'.size ≤ maxLen) (w : World) (ht9 : Hid (TabAt w)) :
    Calls Tryz.prog 14 #[.agg #[.string s, .string t], .agg #[.string s', .string t']] w fun e w' => e = .returned (tup3 (sumS s t s' t')) ∧ Below w.heap.size w w' := by
  obtain ⟨W, gx, hW, hgx, HHW, HBW, HSW⟩ := boxes3 w (.cells #[.string s, .string t] 28) (.cells #[.string s', .string t'] 28) (.cells #[.string ⟨#[]⟩, .string ⟨#[]⟩] 28)
  have HGX := Lib.hid hgx
  obtain ⟨x0, x1, _, _⟩ := two_cells HHW.out.1
  obtain ⟨y0, y1, _, _⟩ := two_cells HHW.out.2.1
  have hgw := blk_lt HHW.out.2.2
  obtain ⟨k, hk⟩ : ∃ k, chk2 s t s' t' = k := ⟨_, rfl⟩
  have HK := Lib.hid hk
  clear hk
  go_enter Tryz.func14, Tryz.ntmps14
  go_upto_region 1 with (fail)
  rw [← hW, ← hgx]
  clear hW hgx
  go_wp2_with fail
  refine (RBOTH1_any s t s' t' hs ht hs' ht' _).mono ?_
  rintro e w0 ⟨rfl, hb0⟩
  rw [HK.out]
  obtain ⟨x0, x1, y0, y1⟩ := four_keep (And.intro x0 (And.intro x1 (And.intro y0 y1))) hb0 (by dsimp only; omega) (by dsimp only; omega) (by dsimp only; omega) (by dsimp only; omega)
  have HB0 := Lib.hid (HBW.out.trans (hb0.mono HBW.out.size))
  have HHR := Lib.hid ((hb0.block (gx + 1 + 1) hgw).trans HHW.out.2.2)
  have hgw := Nat.lt_of_lt_of_le hgw hb0.size
  clear hb0 HHW HSW
  by_cases h0 : k = 0
  · subst h0
    have HR1 := Lib.hid (chk2_zero HK.out).1
    have HR2 := Lib.hid (chk2_zero HK.out).2
    obtain ⟨q, hq⟩ : ∃ q, valQ s t = q := ⟨_, rfl⟩
    obtain ⟨r, hr⟩ : ∃ r, valQ s' t' = r := ⟨_, rfl⟩
    rw [hq] at HR1
    rw [hr] at HR2
    have HV : Hid (sumS s t s' t' = resP (q + r)) := sumS_rt HR1.out HR2.out
    clear hq hr HK
    go_upto_region 4 with (fail)
    obtain ⟨W, rfl⟩ : ∃ Wx : World, Wx = w0 := ⟨_, rfl⟩
    have HBX0 := Lib.hid HB0.out.size
    obtain ⟨W, rfl⟩ : ∃ Wx : World, Wx = W := ⟨_, rfl⟩
    refine wp_region_text 8 (fun x => x.cell? ⟨gx, 0, none⟩ = some (.string s) ∧ x.cell? ⟨gx, 1, none⟩ = some (.string t) ∧ x.cell? ⟨gx + 1, 0, none⟩ = some (.string s') ∧ x.cell? ⟨gx + 1, 1, none⟩ = some (.string t')) (by kernel_rfl) (by kernel_rfl) ?_
    have hS : W.drew.cell? ⟨gx, 0, none⟩ = some (.string s) ∧ W.drew.cell? ⟨gx, 1, none⟩ = some (.string t) ∧ W.drew.cell? ⟨gx + 1, 0, none⟩ = some (.string s') ∧ W.drew.cell? ⟨gx + 1, 1, none⟩ = some (.string t') := ⟨x0, x1, y0, y1⟩
    have hS0 := And.intro x0 (And.intro x1 (And.intro y0 y1))
    refine HT.load (i := 0) (oi := _) (v := ?_) rfl (by kernel_rfl) (by kernel_rfl) (by decide) (fun _ _ _ h => h) (by kernel_rfl) (Or.inl ⟨by rfl, ?_⟩) hS ?_
    rotate_left
    · intro wz hwz
      try dsimp only at hwz
      go_simp
      try with_reducible rfl
    simp only [List.getElem_toArray, List.getElem_cons_succ, List.getElem_cons_zero, Act.put, List.setIfInBounds_toArray, List.set_cons_zero, List.set_cons_succ]
    refine HT.load (i := 2) (oi := _) (v := ?_) rfl (by kernel_rfl) (by kernel_rfl) (by decide) (fun _ _ _ h => h) (by kernel_rfl) (Or.inl ⟨by rfl, ?_⟩) hS ?_
    rotate_left
    · intro wz hwz
      try dsimp only at hwz
      go_simp
      try with_reducible rfl
    simp only [List.getElem_toArray, List.getElem_cons_succ, List.getElem_cons_zero, Act.put, List.setIfInBounds_toArray, List.set_cons_zero, List.set_cons_succ]
    refine HT.one (i := 1) (o := _) rfl (by kernel_rfl) (by decide) (by rfl) ?_
    intro K hK
    go_simp
    refine (ROF_ok HR1.out _).mono ?_
    rintro e w1 ⟨ng1, A1, n1, c1, D1, m1, d1, rfl, h1, k1, l1, hb1⟩
    replace hb1 : Below W.heap.size W w1 := below_undrew hb1
    have H1 := Lib.hid h1
    have HB1 := Lib.hid hb1
    clear h1 hb1
    refine hK.out _ _ (four_keep hS0 HB1.out (by dsimp only; omega) (by dsimp only; omega) (by dsimp only; omega) (by dsimp only; omega)) ?_
    clear hK K hS
    have hS := four_keep hS0 HB1.out (by dsimp only; omega) (by dsimp only; omega) (by dsimp only; omega) (by dsimp only; omega)
    try simp only [List.getElem_toArray, List.getElem_cons_succ, List.getElem_cons_zero, Act.put, List.setIfInBounds_toArray, List.set_cons_zero, List.set_cons_succ]
    refine HT.one (i := 3) (o := _) rfl (by kernel_rfl) (by decide) (by rfl) ?_
    intro K hK
    go_simp
    refine (ROF_ok HR2.out _).mono ?_
    rintro e w2 ⟨ng2, A2, n2, c2, D2, m2, d2, rfl, h2, k2, l2, hb2⟩
    have H2 := Lib.hid h2
    have HB2 := Lib.hid (HB1.out.trans (hb2.mono HB1.out.size))
    have HL2 := Lib.hid hb2
    clear h2 hb2
    refine hK.out _ _ (four_keep hS0 HB2.out (by dsimp only; omega) (by dsimp only; omega) (by dsimp only; omega) (by dsimp only; omega)) ?_
    clear hK K hS
    have hS := four_keep hS0 HB2.out (by dsimp only; omega) (by dsimp only; omega) (by dsimp only; omega) (by dsimp only; omega)
    try simp only [List.getElem_toArray, List.getElem_cons_succ, List.getElem_cons_zero, Act.put, List.setIfInBounds_toArray, List.set_cons_zero, List.set_cons_succ]
    refine HT.one (i := 4) (o := _) rfl (by kernel_rfl) (by decide) (by rfl) ?_
    intro K hK
    go_simp
    refine (RPLUS_any ng1 ng2 A1 A2 D1 D2 n1 c1 m1 d1 n2 c2 m2 d2 q r (by omega) (by omega) (by omega) (by omega) _ w2.heap.size (Nat.le_refl _) (Lib.hid (H1.out.to HL2.out (Nat.le_refl _) HL2.out.size)) H2).mono ?_
    rintro e w3 ⟨ng3, A3, n3, c3, D3, m3, d3, rfl, h3, k3, l3, hb3⟩
    have H3 := Lib.hid h3
    have HB3 := Lib.hid (HB2.out.trans (hb3.mono HB2.out.size))
    have HL3 := Lib.hid hb3
    clear h3 hb3
    refine hK.out _ _ (four_keep hS0 HB3.out (by dsimp only; omega) (by dsimp only; omega) (by dsimp only; omega) (by dsimp only; omega)) ?_
    clear hK K hS
    have hS := four_keep hS0 HB3.out (by dsimp only; omega) (by dsimp only; omega) (by dsimp only; omega) (by dsimp only; omega)
    try simp only [List.getElem_toArray, List.getElem_cons_succ, List.getElem_cons_zero, Act.put, List.setIfInBounds_toArray, List.set_cons_zero, List.set_cons_succ]
    refine HT.one (i := 5) (o := _) rfl (by kernel_rfl) (by decide) (by rfl) ?_
    intro K hK
    go_simp
    refine (RBOUNDED_any ng3 A3 D3 n3 c3 m3 d3 _ (by omega) (by omega) _ (Lib.hid (ht9.out.below (HB0.out.trans (HB3.out.mono HBX0.out)))) w3.heap.size (Nat.le_refl _) H3).mono ?_
    rintro e w4 ⟨rfl, hb4⟩
    have HB4 := Lib.hid (HB3.out.trans (hb4.mono HB3.out.size))
    clear hb4
    obtain ⟨⟨S, T, f⟩, hV⟩ : ∃ p, resP (q + r) = p := ⟨_, rfl⟩
    have HVV := Lib.hid hV
    rw [hV]
    clear hV
    unfold tup3
    dsimp only
    refine hK.out _ _ (four_keep hS0 HB4.out (by dsimp only; omega) (by dsimp only; omega) (by dsimp only; omega) (by dsimp only; omega)) ?_
    clear hK K hS
    have hS := four_keep hS0 HB4.out (by dsimp only; omega) (by dsimp only; omega) (by dsimp only; omega) (by dsimp only; omega)
    try simp only [List.getElem_toArray, List.getElem_cons_succ, List.getElem_cons_zero, Act.put, List.setIfInBounds_toArray, List.set_cons_zero, List.set_cons_succ]
    refine HT.take (i := 6) (oi := _) (v := ?_) rfl (by kernel_rfl) (by kernel_rfl) (by decide) (fun _ _ _ h => h) (Or.inl ⟨by rfl, ?_⟩) hS ?_
    rotate_left
    · intro wz
      go_simp
      try with_reducible rfl
    simp only [List.getElem_toArray, List.getElem_cons_succ, List.getElem_cons_zero, Act.put, List.setIfInBounds_toArray, List.set_cons_zero, List.set_cons_succ]
    refine HT.take (i := 7) (oi := _) (v := ?_) rfl (by kernel_rfl) (by kernel_rfl) (by decide) (fun _ _ _ h => h) (Or.inl ⟨by rfl, ?_⟩) hS ?_
    rotate_left
    · intro wz
      go_simp
      try with_reducible rfl
    simp only [List.getElem_toArray, List.getElem_cons_succ, List.getElem_cons_zero, Act.put, List.setIfInBounds_toArray, List.set_cons_zero, List.set_cons_succ]
    obtain ⟨hr0, hr1, hf0, hf1⟩ := two_cells ((HB4.out.block (gx + 1 + 1) hgw).trans HHR.out)
    obtain ⟨z0, _⟩ := hS
    have hS := z0
    refine HT.done (by kernel_rfl) ?_
    clear hS
    simp only [List.drop_succ_cons, List.drop_zero]
    go_wp2_with fail
    exact end_ratio rfl rfl rfl hr0 hr1 ⟨by rw [HV.out, HVV.out]; rfl, set2_below' (HB0.out.trans (HB4.out.mono HBX0.out)) (by have := HGX.out; omega)⟩
  · have h1 : (k != 0) = true := by simpa using h0
    have HV : Hid (sumS s t s' t' = (noB, noB, k)) := by show _ = _; unfold sumS; rw [if_neg (by rw [HK.out]; exact h0), HK.out]
    obtain ⟨hr0, hr1, hf0, hf1⟩ := two_cells HHR.out
    clear h0
    go_wp2_with fail
    exact end_ratio rfl rfl rfl hr0 hr1 ⟨by rw [HV.out]; rfl, set2_below' HB0.out (by have := HGX.out; omega)⟩
set_option maxRecDepth 100000 in
set_option maxHeartbeats 2000000 in
theorem RPRODUCT_any (s t s' t' : ByteArray) (hs : s.size ≤ maxLen) (ht : t.size ≤ maxLen) (hs' : s'.size ≤ maxLen) (ht' : t'.size ≤ maxLen) (w : World) (ht9 : Hid (TabAt w)) :
    Calls Tryz.prog 18 #[.agg #[.string s, .string t], .agg #[.string s', .string t']] w fun e w' => e = .returned (tup3 (prodS s t s' t')) ∧ Below w.heap.size w w' := by
  obtain ⟨W, gx, hW, hgx, HHW, HBW, HSW⟩ := boxes3 w (.cells #[.string s, .string t] 28) (.cells #[.string s', .string t'] 28) (.cells #[.string ⟨#[]⟩, .string ⟨#[]⟩] 28)
  have HGX := Lib.hid hgx
  obtain ⟨x0, x1, _, _⟩ := two_cells HHW.out.1
  obtain ⟨y0, y1, _, _⟩ := two_cells HHW.out.2.1
  have hgw := blk_lt HHW.out.2.2
  obtain ⟨k, hk⟩ : ∃ k, chk2 s t s' t' = k := ⟨_, rfl⟩
  have HK := Lib.hid hk
  clear hk
  go_enter Tryz.func18, Tryz.ntmps18
  go_upto_region 1 with (fail)
  rw [← hW, ← hgx]
  clear hW hgx
  go_wp2_with fail
  refine (RBOTH1_any s t s' t' hs ht hs' ht' _).mono ?_
  rintro e w0 ⟨rfl, hb0⟩
  rw [HK.out]
  obtain ⟨x0, x1, y0, y1⟩ := four_keep (And.intro x0 (And.intro x1 (And.intro y0 y1))) hb0 (by dsimp only; omega) (by dsimp only; omega) (by dsimp only; omega) (by dsimp only; omega)
  have HB0 := Lib.hid (HBW.out.trans (hb0.mono HBW.out.size))
  have HHR := Lib.hid ((hb0.block (gx + 1 + 1) hgw).trans HHW.out.2.2)
  have hgw := Nat.lt_of_lt_of_le hgw hb0.size
  clear hb0 HHW HSW
  by_cases h0 : k = 0
  · subst h0
    have HR1 := Lib.hid (chk2_zero HK.out).1
    have HR2 := Lib.hid (chk2_zero HK.out).2
    obtain ⟨q, hq⟩ : ∃ q, valQ s t = q := ⟨_, rfl⟩
    obtain ⟨r, hr⟩ : ∃ r, valQ s' t' = r := ⟨_, rfl⟩
    rw [hq] at HR1
    rw [hr] at HR2
    have HV : Hid (prodS s t s' t' = resP (q * r)) := prodS_rt HR1.out HR2.out
    clear hq hr HK
    go_upto_region 4 with (fail)
    obtain ⟨W, rfl⟩ : ∃ Wx : World, Wx = w0 := ⟨_, rfl⟩
    have HBX0 := Lib.hid HB0.out.size
    obtain ⟨W, rfl⟩ : ∃ Wx : World, Wx = W := ⟨_, rfl⟩
    refine wp_region_text 8 (fun x => x.cell? ⟨gx, 0, none⟩ = some (.string s) ∧ x.cell? ⟨gx, 1, none⟩ = some (.string t) ∧ x.cell? ⟨gx + 1, 0, none⟩ = some (.string s') ∧ x.cell? ⟨gx + 1, 1, none⟩ = some (.string t')) (by kernel_rfl) (by kernel_rfl) ?_
    have hS : W.drew.cell? ⟨gx, 0, none⟩ = some (.string s) ∧ W.drew.cell? ⟨gx, 1, none⟩ = some (.string t) ∧ W.drew.cell? ⟨gx + 1, 0, none⟩ = some (.string s') ∧ W.drew.cell? ⟨gx + 1, 1, none⟩ = some (.string t') := ⟨x0, x1, y0, y1⟩
    have hS0 := And.intro x0 (And.intro x1 (And.intro y0 y1))
    refine HT.load (i := 0) (oi := _) (v := ?_) rfl (by kernel_rfl) (by kernel_rfl) (by decide) (fun _ _ _ h => h) (by kernel_rfl) (Or.inl ⟨by rfl, ?_⟩) hS ?_
    rotate_left
    · intro wz hwz
      try dsimp only at hwz
      go_simp
      try with_reducible rfl
    simp only [List.getElem_toArray, List.getElem_cons_succ, List.getElem_cons_zero, Act.put, List.setIfInBounds_toArray, List.set_cons_zero, List.set_cons_succ]
    refine HT.load (i := 2) (oi := _) (v := ?_) rfl (by kernel_rfl) (by kernel_rfl) (by decide) (fun _ _ _ h => h) (by kernel_rfl) (Or.inl ⟨by rfl, ?_⟩) hS ?_
    rotate_left
    · intro wz hwz
      try dsimp only at hwz
      go_simp
      try with_reducible rfl
    simp only [List.getElem_toArray, List.getElem_cons_succ, List.getElem_cons_zero, Act.put, List.setIfInBounds_toArray, List.set_cons_zero, List.set_cons_succ]
    refine HT.one (i := 1) (o := _) rfl (by kernel_rfl) (by decide) (by rfl) ?_
    intro K hK
    go_simp
    refine (ROF_ok HR1.out _).mono ?_
    rintro e w1 ⟨ng1, A1, n1, c1, D1, m1, d1, rfl, h1, k1, l1, hb1⟩
    replace hb1 : Below W.heap.size W w1 := below_undrew hb1
    have H1 := Lib.hid h1
    have HB1 := Lib.hid hb1
    clear h1 hb1
    refine hK.out _ _ (four_keep hS0 HB1.out (by dsimp only; omega) (by dsimp only; omega) (by dsimp only; omega) (by dsimp only; omega)) ?_
    clear hK K hS
    have hS := four_keep hS0 HB1.out (by dsimp only; omega) (by dsimp only; omega) (by dsimp only; omega) (by dsimp only; omega)
    try simp only [List.getElem_toArray, List.getElem_cons_succ, List.getElem_cons_zero, Act.put, List.setIfInBounds_toArray, List.set_cons_zero, List.set_cons_succ]
    refine HT.one (i := 3) (o := _) rfl (by kernel_rfl) (by decide) (by rfl) ?_
    intro K hK
    go_simp
    refine (ROF_ok HR2.out _).mono ?_
    rintro e w2 ⟨ng2, A2, n2, c2, D2, m2, d2, rfl, h2, k2, l2, hb2⟩
    have H2 := Lib.hid h2
    have HB2 := Lib.hid (HB1.out.trans (hb2.mono HB1.out.size))
    have HL2 := Lib.hid hb2
    clear h2 hb2
    refine hK.out _ _ (four_keep hS0 HB2.out (by dsimp only; omega) (by dsimp only; omega) (by dsimp only; omega) (by dsimp only; omega)) ?_
    clear hK K hS
    have hS := four_keep hS0 HB2.out (by dsimp only; omega) (by dsimp only; omega) (by dsimp only; omega) (by dsimp only; omega)
    try simp only [List.getElem_toArray, List.getElem_cons_succ, List.getElem_cons_zero, Act.put, List.setIfInBounds_toArray, List.set_cons_zero, List.set_cons_succ]
    refine HT.one (i := 4) (o := _) rfl (by kernel_rfl) (by decide) (by rfl) ?_
    intro K hK
    go_simp
    refine (RNTIMES_any ng1 ng2 A1 A2 D1 D2 n1 c1 m1 d1 n2 c2 m2 d2 q r (by omega) (by omega) (by omega) (by omega) _ w2.heap.size (Nat.le_refl _) (Lib.hid (H1.out.to HL2.out (Nat.le_refl _) HL2.out.size)) H2).mono ?_
    rintro e w3 ⟨ng3, A3, n3, c3, D3, m3, d3, rfl, h3, k3, l3, hb3⟩
    have H3 := Lib.hid h3
    have HB3 := Lib.hid (HB2.out.trans (hb3.mono HB2.out.size))
    have HL3 := Lib.hid hb3
    clear h3 hb3
    refine hK.out _ _ (four_keep hS0 HB3.out (by dsimp only; omega) (by dsimp only; omega) (by dsimp only; omega) (by dsimp only; omega)) ?_
    clear hK K hS
    have hS := four_keep hS0 HB3.out (by dsimp only; omega) (by dsimp only; omega) (by dsimp only; omega) (by dsimp only; omega)
    try simp only [List.getElem_toArray, List.getElem_cons_succ, List.getElem_cons_zero, Act.put, List.setIfInBounds_toArray, List.set_cons_zero, List.set_cons_succ]
    refine HT.one (i := 5) (o := _) rfl (by kernel_rfl) (by decide) (by rfl) ?_
    intro K hK
    go_simp
    refine (RBOUNDED_any ng3 A3 D3 n3 c3 m3 d3 _ (by omega) (by omega) _ (Lib.hid (ht9.out.below (HB0.out.trans (HB3.out.mono HBX0.out)))) w3.heap.size (Nat.le_refl _) H3).mono ?_
    rintro e w4 ⟨rfl, hb4⟩
    have HB4 := Lib.hid (HB3.out.trans (hb4.mono HB3.out.size))
    clear hb4
    obtain ⟨⟨S, T, f⟩, hV⟩ : ∃ p, resP (q * r) = p := ⟨_, rfl⟩
    have HVV := Lib.hid hV
    rw [hV]
    clear hV
    unfold tup3
    dsimp only
    refine hK.out _ _ (four_keep hS0 HB4.out (by dsimp only; omega) (by dsimp only; omega) (by dsimp only; omega) (by dsimp only; omega)) ?_
    clear hK K hS
    have hS := four_keep hS0 HB4.out (by dsimp only; omega) (by dsimp only; omega) (by dsimp only; omega) (by dsimp only; omega)
    try simp only [List.getElem_toArray, List.getElem_cons_succ, List.getElem_cons_zero, Act.put, List.setIfInBounds_toArray, List.set_cons_zero, List.set_cons_succ]
    refine HT.take (i := 6) (oi := _) (v := ?_) rfl (by kernel_rfl) (by kernel_rfl) (by decide) (fun _ _ _ h => h) (Or.inl ⟨by rfl, ?_⟩) hS ?_
    rotate_left
    · intro wz
      go_simp
      try with_reducible rfl
    simp only [List.getElem_toArray, List.getElem_cons_succ, List.getElem_cons_zero, Act.put, List.setIfInBounds_toArray, List.set_cons_zero, List.set_cons_succ]
    refine HT.take (i := 7) (oi := _) (v := ?_) rfl (by kernel_rfl) (by kernel_rfl) (by decide) (fun _ _ _ h => h) (Or.inl ⟨by rfl, ?_⟩) hS ?_
    rotate_left
    · intro wz
      go_simp
      try with_reducible rfl
    simp only [List.getElem_toArray, List.getElem_cons_succ, List.getElem_cons_zero, Act.put, List.setIfInBounds_toArray, List.set_cons_zero, List.set_cons_succ]
    obtain ⟨hr0, hr1, hf0, hf1⟩ := two_cells ((HB4.out.block (gx + 1 + 1) hgw).trans HHR.out)
    obtain ⟨z0, _⟩ := hS
    have hS := z0
    refine HT.done (by kernel_rfl) ?_
    clear hS
    simp only [List.drop_succ_cons, List.drop_zero]
    go_wp2_with fail
    exact end_ratio rfl rfl rfl hr0 hr1 ⟨by rw [HV.out, HVV.out]; rfl, set2_below' (HB0.out.trans (HB4.out.mono HBX0.out)) (by have := HGX.out; omega)⟩
  · have h1 : (k != 0) = true := by simpa using h0
    have HV : Hid (prodS s t s' t' = (noB, noB, k)) := by show _ = _; unfold prodS; rw [if_neg (by rw [HK.out]; exact h0), HK.out]
    obtain ⟨hr0, hr1, hf0, hf1⟩ := two_cells HHR.out
    clear h0
    go_wp2_with fail
    exact end_ratio rfl rfl rfl hr0 hr1 ⟨by rw [HV.out]; rfl, set2_below' HB0.out (by have := HGX.out; omega)⟩
end Go.Proofs.YtcjdmffflepplaaGreatDoor
