/- clock: Sum, Product, Inverse, Order. -/
import Derived.Test.YtcjdmffflepplaaGreatDoorYm
set_option linter.unusedSimpArgs false
set_option linter.unusedVariables false
namespace Go.Proofs.YtcjdmffflepplaaGreatDoor
open Go.RowKit Go.Dw
set_option maxRecDepth 100000 in
set_option maxHeartbeats 2000000 in
theorem SUM_any (s t s' t' : ByteArray) (hs : s.size ≤ maxLen) (ht : t.size ≤ maxLen) (hs' : s'.size ≤ maxLen) (ht' : t'.size ≤ maxLen) (w : World) :
    Calls Tryz.prog 13 #[.agg #[.string s, .string t], .agg #[.string s', .string t']] w fun e w' => e = .returned (tup3 (sumS s t s' t')) ∧ Below w.heap.size w w' := by
  obtain ⟨W, gx, hW, hgx, HHW, HBW, HSW⟩ := boxes3 w (.cells #[.string s, .string t] 28) (.cells #[.string s', .string t'] 28) (.cells #[.string ⟨#[]⟩, .string ⟨#[]⟩] 28)
  have HGX := Lib.hid hgx
  obtain ⟨x0, x1, _, _⟩ := two_cells HHW.out.1
  obtain ⟨y0, y1, _, _⟩ := two_cells HHW.out.2.1
  have hgw := blk_lt HHW.out.2.2
  obtain ⟨k, hk⟩ : ∃ k, chk2 s t s' t' = k := ⟨_, rfl⟩
  have HK := Lib.hid hk
  clear hk
  go_enter Tryz.func13, Tryz.ntmps13
  go_upto_region 1 with (fail)
  rw [← hW, ← hgx]
  clear hW hgx
  go_wp2_with fail
  refine (CHECKTWO_any s t s' t' hs ht hs' ht' _).mono ?_
  rintro e w0 ⟨rfl, hb0⟩
  rw [HK.out]
  obtain ⟨x0, x1, y0, y1⟩ := four_keep (And.intro x0 (And.intro x1 (And.intro y0 y1))) hb0 (by dsimp only; omega) (by dsimp only; omega) (by dsimp only; omega) (by dsimp only; omega)
  have HB0 := Lib.hid (HBW.out.trans (hb0.mono HBW.out.size))
  have HHR := Lib.hid ((hb0.block (gx + 1 + 1) hgw).trans HHW.out.2.2)
  have hgw := Nat.lt_of_lt_of_le hgw hb0.size
  clear hb0 HHW HSW
  by_cases h0 : k = 0
  · subst h0
    have HR1 := Lib.hid (chk2_zero HK.out).1
    have HR2 := Lib.hid (chk2_zero HK.out).2
    obtain ⟨q, hq⟩ : ∃ q, valQ s t = q := ⟨_, rfl⟩
    obtain ⟨r, hr⟩ : ∃ r, valQ s' t' = r := ⟨_, rfl⟩
    rw [hq] at HR1
    rw [hr] at HR2
    have HV : Hid (sumS s t s' t' = resP (q + r)) := sumS_rt HR1.out HR2.out
    clear hq hr HK
    go_upto_region 4 with (fail)
    obtain ⟨W, rfl⟩ : ∃ Wx : World, Wx = w0 := ⟨_, rfl⟩
    have HBX0 := Lib.hid HB0.out.size
    obtain ⟨W, rfl⟩ : ∃ Wx : World, Wx = W := ⟨_, rfl⟩
    refine wp_region_text 8 (fun x => x.cell? ⟨gx, 0, none⟩ = some (.string s) ∧ x.cell? ⟨gx, 1, none⟩ = some (.string t) ∧ x.cell? ⟨gx + 1, 0, none⟩ = some (.string s') ∧ x.cell? ⟨gx + 1, 1, none⟩ = some (.string t')) (by kernel_rfl) (by kernel_rfl) ?_
    have hS : W.drew.cell? ⟨gx, 0, none⟩ = some (.string s) ∧ W.drew.cell? ⟨gx, 1, none⟩ = some (.string t) ∧ W.drew.cell? ⟨gx + 1, 0, none⟩ = some (.string s') ∧ W.drew.cell? ⟨gx + 1, 1, none⟩ = some (.string t') := ⟨x0, x1, y0, y1⟩
    have hS0 := And.intro x0 (And.intro x1 (And.intro y0 y1))
    refine HT.load (i := 0) (oi := _) (v := ?_) rfl (by kernel_rfl) (by kernel_rfl) (by decide) (fun _ _ _ h => h) (by kernel_rfl) (Or.inl ⟨by rfl, ?_⟩) hS ?_
    rotate_left
    · intro wz hwz
      try dsimp only at hwz
      go_simp
      try with_reducible rfl
    simp only [List.getElem_toArray, List.getElem_cons_succ, List.getElem_cons_zero, Act.put, List.setIfInBounds_toArray, List.set_cons_zero, List.set_cons_succ]
    refine HT.load (i := 2) (oi := _) (v := ?_) rfl (by kernel_rfl) (by kernel_rfl) (by decide) (fun _ _ _ h => h) (by kernel_rfl) (Or.inl ⟨by rfl, ?_⟩) hS ?_
    rotate_left
    · intro wz hwz
      try dsimp only at hwz
      go_simp
      try with_reducible rfl
    simp only [List.getElem_toArray, List.getElem_cons_succ, List.getElem_cons_zero, Act.put, List.setIfInBounds_toArray, List.set_cons_zero, List.set_cons_succ]
    refine HT.one (i := 1) (o := _) rfl (by kernel_rfl) (by decide) (by rfl) ?_
    intro K hK
    go_simp
    refine (FROM_ok HR1.out _).mono ?_
    rintro e w1 ⟨ng1, A1, n1, c1, D1, m1, d1, rfl, h1, k1, l1, hb1⟩
    replace hb1 : Below W.heap.size W w1 := below_undrew hb1
    have H1 := Lib.hid h1
    have HB1 := Lib.hid hb1
    clear h1 hb1
    refine hK.out _ _ (four_keep hS0 HB1.out (by dsimp only; omega) (by dsimp only; omega) (by dsimp only; omega) (by dsimp only; omega)) ?_
    clear hK K hS
    have hS := four_keep hS0 HB1.out (by dsimp only; omega) (by dsimp only; omega) (by dsimp only; omega) (by dsimp only; omega)
    try simp only [List.getElem_toArray, List.getElem_cons_succ, List.getElem_cons_zero, Act.put, List.setIfInBounds_toArray, List.set_cons_zero, List.set_cons_succ]
    refine HT.one (i := 3) (o := _) rfl (by kernel_rfl) (by decide) (by rfl) ?_
    intro K hK
    go_simp
    refine (FROM_ok HR2.out _).mono ?_
    rintro e w2 ⟨ng2, A2, n2, c2, D2, m2, d2, rfl, h2, k2, l2, hb2⟩
    have H2 := Lib.hid h2
    have HB2 := Lib.hid (HB1.out.trans (hb2.mono HB1.out.size))
    have HL2 := Lib.hid hb2
    clear h2 hb2
    refine hK.out _ _ (four_keep hS0 HB2.out (by dsimp only; omega) (by dsimp only; omega) (by dsimp only; omega) (by dsimp only; omega)) ?_
    clear hK K hS
    have hS := four_keep hS0 HB2.out (by dsimp only; omega) (by dsimp only; omega) (by dsimp only; omega) (by dsimp only; omega)
    try simp only [List.getElem_toArray, List.getElem_cons_succ, List.getElem_cons_zero, Act.put, List.setIfInBounds_toArray, List.set_cons_zero, List.set_cons_succ]
    refine HT.one (i := 4) (o := _) rfl (by kernel_rfl) (by decide) (by rfl) ?_
    intro K hK
    go_simp
    refine (QADD_any ng1 ng2 A1 A2 D1 D2 n1 c1 m1 d1 n2 c2 m2 d2 q r (by omega) (by omega) (by omega) (by omega) _ w2.heap.size (Nat.le_refl _) (Lib.hid (H1.out.to HL2.out (Nat.le_refl _) HL2.out.size)) H2).mono ?_
    rintro e w3 ⟨ng3, A3, n3, c3, D3, m3, d3, rfl, h3, k3, l3, hb3⟩
    have H3 := Lib.hid h3
    have HB3 := Lib.hid (HB2.out.trans (hb3.mono HB2.out.size))
    have HL3 := Lib.hid hb3
    clear h3 hb3
    refine hK.out _ _ (four_keep hS0 HB3.out (by dsimp only; omega) (by dsimp only; omega) (by dsimp only; omega) (by dsimp only; omega)) ?_
    clear hK K hS
    have hS := four_keep hS0 HB3.out (by dsimp only; omega) (by dsimp only; omega) (by dsimp only; omega) (by dsimp only; omega)
    try simp only [List.getElem_toArray, List.getElem_cons_succ, List.getElem_cons_zero, Act.put, List.setIfInBounds_toArray, List.set_cons_zero, List.set_cons_succ]
    refine HT.one (i := 5) (o := _) rfl (by kernel_rfl) (by decide) (by rfl) ?_
    intro K hK
    go_simp
    refine (RESULT_any ng3 A3 D3 n3 c3 m3 d3 _ (by omega) (by omega) _ w3.heap.size (Nat.le_refl _) H3).mono ?_
    rintro e w4 ⟨rfl, hb4⟩
    have HB4 := Lib.hid (HB3.out.trans (hb4.mono HB3.out.size))
    clear hb4
    obtain ⟨⟨S, T, f⟩, hV⟩ : ∃ p, resP (q + r) = p := ⟨_, rfl⟩
    have HVV := Lib.hid hV
    rw [hV]
    clear hV
    unfold tup3
    dsimp only
    refine hK.out _ _ (four_keep hS0 HB4.out (by dsimp only; omega) (by dsimp only; omega) (by dsimp only; omega) (by dsimp only; omega)) ?_
    clear hK K hS
    have hS := four_keep hS0 HB4.out (by dsimp only; omega) (by dsimp only; omega) (by dsimp only; omega) (by dsimp only; omega)
    try simp only [List.getElem_toArray, List.getElem_cons_succ, List.getElem_cons_zero, Act.put, List.setIfInBounds_toArray, List.set_cons_zero, List.set_cons_succ]
    refine HT.take (i := 6) (oi := _) (v := ?_) rfl (by kernel_rfl) (by kernel_rfl) (by decide) (fun _ _ _ h => h) (Or.inl ⟨by rfl, ?_⟩) hS ?_
    rotate_left
    · intro wz
      go_simp
      try with_reducible rfl
    simp only [List.getElem_toArray, List.getElem_cons_succ, List.getElem_cons_zero, Act.put, List.setIfInBounds_toArray, List.set_cons_zero, List.set_cons_succ]
    refine HT.take (i := 7) (oi := _) (v := ?_) rfl (by kernel_rfl) (by kernel_rfl) (by decide) (fun _ _ _ h => h) (Or.inl ⟨by rfl, ?_⟩) hS ?_
    rotate_left
    · intro wz
      go_simp
      try with_reducible rfl
    simp only [List.getElem_toArray, List.getElem_cons_succ, List.getElem_cons_zero, Act.put, List.setIfInBounds_toArray, List.set_cons_zero, List.set_cons_succ]
    obtain ⟨hr0, hr1, hf0, hf1⟩ := two_cells ((HB4.out.block (gx + 1 + 1) hgw).trans HHR.out)
    obtain ⟨z0, _⟩ := hS
    have hS := z0
    refine HT.done (by kernel_rfl) ?_
    clear hS
    simp only [List.drop_succ_cons, List.drop_zero]
    go_wp2_with fail
    exact end_ratio rfl rfl rfl hr0 hr1 ⟨by rw [HV.out, HVV.out]; rfl, set2_below' (HB0.out.trans (HB4.out.mono HBX0.out)) (by have := HGX.out; omega)⟩
  · have h1 : (k != 0) = true := by simpa using h0
    have HV : Hid (sumS s t s' t' = (noB, noB, k)) := by show _ = _; unfold sumS; rw [if_neg (by rw [HK.out]; exact h0), HK.out]
    obtain ⟨hr0, hr1, hf0, hf1⟩ := two_cells HHR.out
    clear h0
    go_wp2_with fail
    exact end_ratio rfl rfl rfl hr0 hr1 ⟨by rw [HV.out]; rfl, set2_below' HB0.out (by have := HGX.out; omega)⟩
set_option maxRecDepth 100000 in
set_option maxHeartbeats 2000000 in
theorem PRODUCT_any (s t s' t' : ByteArray) (hs : s.size ≤ maxLen) (ht : t.size ≤ maxLen) (hs' : s'.size ≤ maxLen) (ht' : t'.size ≤ maxLen) (w : World) :
    Calls Tryz.prog 17 #[.agg #[.string s, .string t], .agg #[.string s', .string t']] w fun e w' => e = .returned (tup3 (prodS s t s' t')) ∧ Below w.heap.size w w' := by
  obtain ⟨W, gx, hW, hgx, HHW, HBW, HSW⟩ := boxes3 w (.cells #[.string s, .string t] 28) (.cells #[.string s', .string t'] 28) (.cells #[.string ⟨#[]⟩, .string ⟨#[]⟩] 28)
  have HGX := Lib.hid hgx
  obtain ⟨x0, x1, _, _⟩ := two_cells HHW.out.1
  obtain ⟨y0, y1, _, _⟩ := two_cells HHW.out.2.1
  have hgw := blk_lt HHW.out.2.2
  obtain ⟨k, hk⟩ : ∃ k, chk2 s t s' t' = k := ⟨_, rfl⟩
  have HK := Lib.hid hk
  clear hk
  go_enter Tryz.func17, Tryz.ntmps17
  go_upto_region 1 with (fail)
  rw [← hW, ← hgx]
  clear hW hgx
  go_wp2_with fail
  refine (CHECKTWO_any s t s' t' hs ht hs' ht' _).mono ?_
  rintro e w0 ⟨rfl, hb0⟩
  rw [HK.out]
  obtain ⟨x0, x1, y0, y1⟩ := four_keep (And.intro x0 (And.intro x1 (And.intro y0 y1))) hb0 (by dsimp only; omega) (by dsimp only; omega) (by dsimp only; omega) (by dsimp only; omega)
  have HB0 := Lib.hid (HBW.out.trans (hb0.mono HBW.out.size))
  have HHR := Lib.hid ((hb0.block (gx + 1 + 1) hgw).trans HHW.out.2.2)
  have hgw := Nat.lt_of_lt_of_le hgw hb0.size
  clear hb0 HHW HSW
  by_cases h0 : k = 0
  · subst h0
    have HR1 := Lib.hid (chk2_zero HK.out).1
    have HR2 := Lib.hid (chk2_zero HK.out).2
    obtain ⟨q, hq⟩ : ∃ q, valQ s t = q := ⟨_, rfl⟩
    obtain ⟨r, hr⟩ : ∃ r, valQ s' t' = r := ⟨_, rfl⟩
    rw [hq] at HR1
    rw [hr] at HR2
    have HV : Hid (prodS s t s' t' = resP (q * r)) := prodS_rt HR1.out HR2.out
    clear hq hr HK
    go_upto_region 4 with (fail)
    obtain ⟨W, rfl⟩ : ∃ Wx : World, Wx = w0 := ⟨_, rfl⟩
    have HBX0 := Lib.hid HB0.out.size
    obtain ⟨W, rfl⟩ : ∃ Wx : World, Wx = W := ⟨_, rfl⟩
    refine wp_region_text 8 (fun x => x.cell? ⟨gx, 0, none⟩ = some (.string s) ∧ x.cell? ⟨gx, 1, none⟩ = some (.string t) ∧ x.cell? ⟨gx + 1, 0, none⟩ = some (.string s') ∧ x.cell? ⟨gx + 1, 1, none⟩ = some (.string t')) (by kernel_rfl) (by kernel_rfl) ?_
    have hS : W.drew.cell? ⟨gx, 0, none⟩ = some (.string s) ∧ W.drew.cell? ⟨gx, 1, none⟩ = some (.string t) ∧ W.drew.cell? ⟨gx + 1, 0, none⟩ = some (.string s') ∧ W.drew.cell? ⟨gx + 1, 1, none⟩ = some (.string t') := ⟨x0, x1, y0, y1⟩
    have hS0 := And.intro x0 (And.intro x1 (And.intro y0 y1))
    refine HT.load (i := 0) (oi := _) (v := ?_) rfl (by kernel_rfl) (by kernel_rfl) (by decide) (fun _ _ _ h => h) (by kernel_rfl) (Or.inl ⟨by rfl, ?_⟩) hS ?_
    rotate_left
    · intro wz hwz
      try dsimp only at hwz
      go_simp
      try with_reducible rfl
    simp only [List.getElem_toArray, List.getElem_cons_succ, List.getElem_cons_zero, Act.put, List.setIfInBounds_toArray, List.set_cons_zero, List.set_cons_succ]
    refine HT.load (i := 2) (oi := _) (v := ?_) rfl (by kernel_rfl) (by kernel_rfl) (by decide) (fun _ _ _ h => h) (by kernel_rfl) (Or.inl ⟨by rfl, ?_⟩) hS ?_
    rotate_left
    · intro wz hwz
      try dsimp only at hwz
      go_simp
      try with_reducible rfl
    simp only [List.getElem_toArray, List.getElem_cons_succ, List.getElem_cons_zero, Act.put, List.setIfInBounds_toArray, List.set_cons_zero, List.set_cons_succ]
    refine HT.one (i := 1) (o := _) rfl (by kernel_rfl) (by decide) (by rfl) ?_
    intro K hK
    go_simp
    refine (FROM_ok HR1.out _).mono ?_
    rintro e w1 ⟨ng1, A1, n1, c1, D1, m1, d1, rfl, h1, k1, l1, hb1⟩
    replace hb1 : Below W.heap.size W w1 := below_undrew hb1
    have H1 := Lib.hid h1
    have HB1 := Lib.hid hb1
    clear h1 hb1
    refine hK.out _ _ (four_keep hS0 HB1.out (by dsimp only; omega) (by dsimp only; omega) (by dsimp only; omega) (by dsimp only; omega)) ?_
    clear hK K hS
    have hS := four_keep hS0 HB1.out (by dsimp only; omega) (by dsimp only; omega) (by dsimp only; omega) (by dsimp only; omega)
    try simp only [List.getElem_toArray, List.getElem_cons_succ, List.getElem_cons_zero, Act.put, List.setIfInBounds_toArray, List.set_cons_zero, List.set_cons_succ]
    refine HT.one (i := 3) (o := _) rfl (by kernel_rfl) (by decide) (by rfl) ?_
    intro K hK
    go_simp
    refine (FROM_ok HR2.out _).mono ?_
    rintro e w2 ⟨ng2, A2, n2, c2, D2, m2, d2, rfl, h2, k2, l2, hb2⟩
    have H2 := Lib.hid h2
    have HB2 := Lib.hid (HB1.out.trans (hb2.mono HB1.out.size))
    have HL2 := Lib.hid hb2
    clear h2 hb2
    refine hK.out _ _ (four_keep hS0 HB2.out (by dsimp only; omega) (by dsimp only; omega) (by dsimp only; omega) (by dsimp only; omega)) ?_
    clear hK K hS
    have hS := four_keep hS0 HB2.out (by dsimp only; omega) (by dsimp only; omega) (by dsimp only; omega) (by dsimp only; omega)
    try simp only [List.getElem_toArray, List.getElem_cons_succ, List.getElem_cons_zero, Act.put, List.setIfInBounds_toArray, List.set_cons_zero, List.set_cons_succ]
    refine HT.one (i := 4) (o := _) rfl (by kernel_rfl) (by decide) (by rfl) ?_
    intro K hK
    go_simp
    refine (QMUL_any ng1 ng2 A1 A2 D1 D2 n1 c1 m1 d1 n2 c2 m2 d2 q r (by omega) (by omega) (by omega) (by omega) _ w2.heap.size (Nat.le_refl _) (Lib.hid (H1.out.to HL2.out (Nat.le_refl _) HL2.out.size)) H2).mono ?_
    rintro e w3 ⟨ng3, A3, n3, c3, D3, m3, d3, rfl, h3, k3, l3, hb3⟩
    have H3 := Lib.hid h3
    have HB3 := Lib.hid (HB2.out.trans (hb3.mono HB2.out.size))
    have HL3 := Lib.hid hb3
    clear h3 hb3
    refine hK.out _ _ (four_keep hS0 HB3.out (by dsimp only; omega) (by dsimp only; omega) (by dsimp only; omega) (by dsimp only; omega)) ?_
    clear hK K hS
    have hS := four_keep hS0 HB3.out (by dsimp only; omega) (by dsimp only; omega) (by dsimp only; omega) (by dsimp only; omega)
    try simp only [List.getElem_toArray, List.getElem_cons_succ, List.getElem_cons_zero, Act.put, List.setIfInBounds_toArray, List.set_cons_zero, List.set_cons_succ]
    refine HT.one (i := 5) (o := _) rfl (by kernel_rfl) (by decide) (by rfl) ?_
    intro K hK
    go_simp
    refine (RESULT_any ng3 A3 D3 n3 c3 m3 d3 _ (by omega) (by omega) _ w3.heap.size (Nat.le_refl _) H3).mono ?_
    rintro e w4 ⟨rfl, hb4⟩
    have HB4 := Lib.hid (HB3.out.trans (hb4.mono HB3.out.size))
    clear hb4
    obtain ⟨⟨S, T, f⟩, hV⟩ : ∃ p, resP (q * r) = p := ⟨_, rfl⟩
    have HVV := Lib.hid hV
    rw [hV]
    clear hV
    unfold tup3
    dsimp only
    refine hK.out _ _ (four_keep hS0 HB4.out (by dsimp only; omega) (by dsimp only; omega) (by dsimp only; omega) (by dsimp only; omega)) ?_
    clear hK K hS
    have hS := four_keep hS0 HB4.out (by dsimp only; omega) (by dsimp only; omega) (by dsimp only; omega) (by dsimp only; omega)
    try simp only [List.getElem_toArray, List.getElem_cons_succ, List.getElem_cons_zero, Act.put, List.setIfInBounds_toArray, List.set_cons_zero, List.set_cons_succ]
    refine HT.take (i := 6) (oi := _) (v := ?_) rfl (by kernel_rfl) (by kernel_rfl) (by decide) (fun _ _ _ h => h) (Or.inl ⟨by rfl, ?_⟩) hS ?_
    rotate_left
    · intro wz
      go_simp
      try with_reducible rfl
    simp only [List.getElem_toArray, List.getElem_cons_succ, List.getElem_cons_zero, Act.put, List.setIfInBounds_toArray, List.set_cons_zero, List.set_cons_succ]
    refine HT.take (i := 7) (oi := _) (v := ?_) rfl (by kernel_rfl) (by kernel_rfl) (by decide) (fun _ _ _ h => h) (Or.inl ⟨by rfl, ?_⟩) hS ?_
    rotate_left
    · intro wz
      go_simp
      try with_reducible rfl
    simp only [List.getElem_toArray, List.getElem_cons_succ, List.getElem_cons_zero, Act.put, List.setIfInBounds_toArray, List.set_cons_zero, List.set_cons_succ]
    obtain ⟨hr0, hr1, hf0, hf1⟩ := two_cells ((HB4.out.block (gx + 1 + 1) hgw).trans HHR.out)
    obtain ⟨z0, _⟩ := hS
    have hS := z0
    refine HT.done (by kernel_rfl) ?_
    clear hS
    simp only [List.drop_succ_cons, List.drop_zero]
    go_wp2_with fail
    exact end_ratio rfl rfl rfl hr0 hr1 ⟨by rw [HV.out, HVV.out]; rfl, set2_below' (HB0.out.trans (HB4.out.mono HBX0.out)) (by have := HGX.out; omega)⟩
  · have h1 : (k != 0) = true := by simpa using h0
    have HV : Hid (prodS s t s' t' = (noB, noB, k)) := by show _ = _; unfold prodS; rw [if_neg (by rw [HK.out]; exact h0), HK.out]
    obtain ⟨hr0, hr1, hf0, hf1⟩ := two_cells HHR.out
    clear h0
    go_wp2_with fail
    exact end_ratio rfl rfl rfl hr0 hr1 ⟨by rw [HV.out]; rfl, set2_below' HB0.out (by have := HGX.out; omega)⟩
set_option maxRecDepth 100000 in
set_option maxHeartbeats 2000000 in
theorem ORDER_any (s t s' t' : ByteArray) (hs : s.size ≤ maxLen) (ht : t.size ≤ maxLen) (hs' : s'.size ≤ maxLen) (ht' : t'.size ≤ maxLen) (w : World) :
    Calls Tryz.prog 21 #[.agg #[.string s, .string t], .agg #[.string s', .string t']] w fun e w' => e = .returned (.tuple #[.int .i64 (ordS s t s' t').1, .int .i64 (ordS s t s' t').2]) ∧ Below w.heap.size w w' := by
  obtain ⟨W, gx, hW, hgx, HHW, HBW, HSW⟩ := boxes2 w (.cells #[.string s, .string t] 28) (.cells #[.string s', .string t'] 28)
  have HGX := Lib.hid hgx
  obtain ⟨x0, x1, _, _⟩ := two_cells HHW.out.1
  obtain ⟨y0, y1, _, _⟩ := two_cells HHW.out.2
  have hgw := blk_lt HHW.out.2
  obtain ⟨k, hk⟩ : ∃ k, chk2 s t s' t' = k := ⟨_, rfl⟩
  have HK := Lib.hid hk
  clear hk
  go_enter Tryz.func21, Tryz.ntmps21
  go_upto_region 1 with (fail)
  rw [← hW, ← hgx]
  clear hW hgx
  go_wp2_with fail
  refine (CHECKTWO_any s t s' t' hs ht hs' ht' _).mono ?_
  rintro e w0 ⟨rfl, hb0⟩
  rw [HK.out]
  obtain ⟨x0, x1, y0, y1⟩ := four_keep (And.intro x0 (And.intro x1 (And.intro y0 y1))) hb0 (by dsimp only; omega) (by dsimp only; omega) (by dsimp only; omega) (by dsimp only; omega)
  have HB0 := Lib.hid (HBW.out.trans (hb0.mono HBW.out.size))
  have hgw := Nat.lt_of_lt_of_le hgw hb0.size
  clear hb0 HHW HSW
  by_cases h0 : k = 0
  · subst h0
    have HR1 := Lib.hid (chk2_zero HK.out).1
    have HR2 := Lib.hid (chk2_zero HK.out).2
    obtain ⟨q, hq⟩ : ∃ q, valQ s t = q := ⟨_, rfl⟩
    obtain ⟨r, hr⟩ : ∃ r, valQ s' t' = r := ⟨_, rfl⟩
    rw [hq] at HR1
    rw [hr] at HR2
    have HV : Hid (ordS s t s' t' = (cmpQ q r, 0)) := ordS_rt HR1.out HR2.out
    clear hq hr HK
    go_upto_region 4 with (fail)
    obtain ⟨W, rfl⟩ : ∃ Wx : World, Wx = w0 := ⟨_, rfl⟩
    have HBX0 := Lib.hid HB0.out.size
    obtain ⟨W, rfl⟩ : ∃ Wx : World, Wx = W := ⟨_, rfl⟩
    refine wp_region_text 7 (fun x => x.cell? ⟨gx, 0, none⟩ = some (.string s) ∧ x.cell? ⟨gx, 1, none⟩ = some (.string t) ∧ x.cell? ⟨gx + 1, 0, none⟩ = some (.string s') ∧ x.cell? ⟨gx + 1, 1, none⟩ = some (.string t')) (by kernel_rfl) (by kernel_rfl) ?_
    have hS : W.drew.cell? ⟨gx, 0, none⟩ = some (.string s) ∧ W.drew.cell? ⟨gx, 1, none⟩ = some (.string t) ∧ W.drew.cell? ⟨gx + 1, 0, none⟩ = some (.string s') ∧ W.drew.cell? ⟨gx + 1, 1, none⟩ = some (.string t') := ⟨x0, x1, y0, y1⟩
    have hS0 := And.intro x0 (And.intro x1 (And.intro y0 y1))
    refine HT.load (i := 0) (oi := _) (v := ?_) rfl (by kernel_rfl) (by kernel_rfl) (by decide) (fun _ _ _ h => h) (by kernel_rfl) (Or.inl ⟨by rfl, ?_⟩) hS ?_
    rotate_left
    · intro wz hwz
      try dsimp only at hwz
      go_simp
      try with_reducible rfl
    simp only [List.getElem_toArray, List.getElem_cons_succ, List.getElem_cons_zero, Act.put, List.setIfInBounds_toArray, List.set_cons_zero, List.set_cons_succ]
    refine HT.load (i := 2) (oi := _) (v := ?_) rfl (by kernel_rfl) (by kernel_rfl) (by decide) (fun _ _ _ h => h) (by kernel_rfl) (Or.inl ⟨by rfl, ?_⟩) hS ?_
    rotate_left
    · intro wz hwz
      try dsimp only at hwz
      go_simp
      try with_reducible rfl
    simp only [List.getElem_toArray, List.getElem_cons_succ, List.getElem_cons_zero, Act.put, List.setIfInBounds_toArray, List.set_cons_zero, List.set_cons_succ]
    refine HT.one (i := 1) (o := _) rfl (by kernel_rfl) (by decide) (by rfl) ?_
    intro K hK
    go_simp
    refine (FROM_ok HR1.out _).mono ?_
    rintro e w1 ⟨ng1, A1, n1, c1, D1, m1, d1, rfl, h1, k1, l1, hb1⟩
    replace hb1 : Below W.heap.size W w1 := below_undrew hb1
    have H1 := Lib.hid h1
    have HB1 := Lib.hid hb1
    clear h1 hb1
    refine hK.out _ _ (four_keep hS0 HB1.out (by dsimp only; omega) (by dsimp only; omega) (by dsimp only; omega) (by dsimp only; omega)) ?_
    clear hK K hS
    have hS := four_keep hS0 HB1.out (by dsimp only; omega) (by dsimp only; omega) (by dsimp only; omega) (by dsimp only; omega)
    try simp only [List.getElem_toArray, List.getElem_cons_succ, List.getElem_cons_zero, Act.put, List.setIfInBounds_toArray, List.set_cons_zero, List.set_cons_succ]
    refine HT.one (i := 3) (o := _) rfl (by kernel_rfl) (by decide) (by rfl) ?_
    intro K hK
    go_simp
    refine (FROM_ok HR2.out _).mono ?_
    rintro e w2 ⟨ng2, A2, n2, c2, D2, m2, d2, rfl, h2, k2, l2, hb2⟩
    have H2 := Lib.hid h2
    have HB2 := Lib.hid (HB1.out.trans (hb2.mono HB1.out.size))
    have HL2 := Lib.hid hb2
    clear h2 hb2
    refine hK.out _ _ (four_keep hS0 HB2.out (by dsimp only; omega) (by dsimp only; omega) (by dsimp only; omega) (by dsimp only; omega)) ?_
    clear hK K hS
    have hS := four_keep hS0 HB2.out (by dsimp only; omega) (by dsimp only; omega) (by dsimp only; omega) (by dsimp only; omega)
    try simp only [List.getElem_toArray, List.getElem_cons_succ, List.getElem_cons_zero, Act.put, List.setIfInBounds_toArray, List.set_cons_zero, List.set_cons_succ]
    refine HT.one (i := 4) (o := _) rfl (by kernel_rfl) (by decide) (by rfl) ?_
    intro K hK
    go_simp
    refine (QCMP_any ng1 ng2 A1 A2 D1 D2 n1 c1 m1 d1 n2 c2 m2 d2 q r (by omega) (by omega) (by omega) (by omega) _ w2.heap.size (Nat.le_refl _) (Lib.hid (H1.out.to HL2.out (Nat.le_refl _) HL2.out.size)) H2).mono ?_
    rintro e w3 ⟨rfl, hb3⟩
    have HB3 := Lib.hid (HB2.out.trans (hb3.mono HB2.out.size))
    clear hb3
    refine hK.out _ _ (four_keep hS0 HB3.out (by dsimp only; omega) (by dsimp only; omega) (by dsimp only; omega) (by dsimp only; omega)) ?_
    clear hK K hS
    have hS := four_keep hS0 HB3.out (by dsimp only; omega) (by dsimp only; omega) (by dsimp only; omega) (by dsimp only; omega)
    try simp only [List.getElem_toArray, List.getElem_cons_succ, List.getElem_cons_zero, Act.put, List.setIfInBounds_toArray, List.set_cons_zero, List.set_cons_succ]
    refine HT.take (i := 5) (oi := _) (v := ?_) rfl (by kernel_rfl) (by kernel_rfl) (by decide) (fun _ _ _ h => h) (Or.inl ⟨by rfl, ?_⟩) hS ?_
    rotate_left
    · intro wz
      go_simp
      try with_reducible rfl
    simp only [List.getElem_toArray, List.getElem_cons_succ, List.getElem_cons_zero, Act.put, List.setIfInBounds_toArray, List.set_cons_zero, List.set_cons_succ]
    refine HT.take (i := 6) (oi := _) (v := ?_) rfl (by kernel_rfl) (by kernel_rfl) (by decide) (fun _ _ _ h => h) (Or.inl ⟨by rfl, ?_⟩) hS ?_
    rotate_left
    · intro wz
      go_simp
      try with_reducible rfl
    simp only [List.getElem_toArray, List.getElem_cons_succ, List.getElem_cons_zero, Act.put, List.setIfInBounds_toArray, List.set_cons_zero, List.set_cons_succ]
    refine HT.done (by kernel_rfl) ?_
    clear hS
    simp only [List.drop_succ_cons, List.drop_zero]
    go_wp2_with fail
    go_ret2
    exact ⟨by rw [HV.out]; rfl, HB0.out.trans (HB3.out.mono HBX0.out)⟩
  · have h1 : (k != 0) = true := by simpa using h0
    have HV : Hid (ordS s t s' t' = (0, k)) := by show _ = _; unfold ordS; rw [if_neg (by rw [HK.out]; exact h0), HK.out]
    clear h0
    go_wp2_with fail
    go_ret2
    exact ⟨by rw [HV.out]; rfl, HB0.out⟩
set_option maxRecDepth 100000 in
set_option maxHeartbeats 2000000 in
theorem INVERSE_any (s t : ByteArray) (hs : s.size ≤ maxLen) (ht : t.size ≤ maxLen) (w : World) :
    Calls Tryz.prog 19 #[.agg #[.string s, .string t]] w fun e w' => e = .returned (tup3 (invS s t)) ∧ Below w.heap.size w w' := by
  obtain ⟨W, gx, hW, hgx, HHW, HBW, HSW⟩ := boxes2 w (.cells #[.string s, .string t] 28) (.cells #[.string ⟨#[]⟩, .string ⟨#[]⟩] 28)
  have HGX := Lib.hid hgx
  obtain ⟨x0, x1, _, _⟩ := two_cells HHW.out.1
  have hgw := blk_lt HHW.out.2
  obtain ⟨k, hk⟩ : ∃ k, chkQ s t = k := ⟨_, rfl⟩
  have HK := Lib.hid hk
  clear hk
  go_enter Tryz.func19, Tryz.ntmps19
  go_upto_region 1 with (fail)
  rw [← hW, ← hgx]
  clear hW hgx
  go_wp2_with fail
  refine (CHECKRATIO_any s t hs ht _).mono ?_
  rintro e w0 ⟨rfl, hb0⟩
  rw [HK.out]
  obtain ⟨x0, x1⟩ := two_keep (And.intro x0 x1) hb0 (by dsimp only; omega) (by dsimp only; omega)
  have HB0 := Lib.hid (HBW.out.trans (hb0.mono HBW.out.size))
  have HHR := Lib.hid ((hb0.block (gx + 1) hgw).trans HHW.out.2)
  have hgw := Nat.lt_of_lt_of_le hgw hb0.size
  clear hb0 HHW HSW
  by_cases h0 : k = 0
  · subst h0
    have HR1 := Lib.hid (Rt.of HK.out)
    obtain ⟨q, hq⟩ : ∃ q, valQ s t = q := ⟨_, rfl⟩
    rw [hq] at HR1
    have HV : Hid (invS s t = if q = 0 then (noB, noB, 13) else resP (1 / q)) := invS_rt HR1.out
    clear hq HK
    go_wp2_with fail
    refine (FROM_ok HR1.out _).mono ?_
    rintro e w1 ⟨ng1, A1, n1, c1, D1, m1, d1, rfl, h1, k1, l1, hb1⟩
    have H1 := Lib.hid h1
    have HB1 := Lib.hid (HB0.out.trans (hb1.mono HB0.out.size))
    have HHR := Lib.hid ((hb1.block (gx + 1) hgw).trans HHR.out)
    have hgw := Nat.lt_of_lt_of_le hgw hb1.size
    clear h1 hb1 x0 x1
    go_upto_region 5 with (fail)
    obtain ⟨W, gq, hW, hgq, HHQ, HBQ, HSQ⟩ := cell_new w1 47 #[.bool ng1, .slice A1 n1 c1, .slice D1 m1 d1]
    rw [← hW, ← hgq]
    obtain ⟨x0, x1, x2, _, _, _⟩ := three_cells HHQ.out
    have hgqw := blk_lt HHQ.out
    have HB2 := Lib.hid (HB1.out.trans (HBQ.out.mono HB1.out.size))
    have HHR := Lib.hid ((HBQ.out.block (gx + 1) hgw).trans HHR.out)
    have hgw := Nat.lt_of_lt_of_le hgw HBQ.out.size
    have HQW := Lib.hid (H1.out.to HBQ.out (Nat.le_refl _) HBQ.out.size)
    clear hW hgq HHQ H1 HSQ
    go_wp2_with fail
    refine (QSIGN_any ng1 A1 D1 n1 c1 m1 d1 q _ W.heap.size (Nat.le_refl _) HQW).mono ?_
    rintro e w3 ⟨rfl, hb3⟩
    obtain ⟨x0, x1, x2⟩ := three_keep (And.intro x0 (And.intro x1 x2)) hb3 (by dsimp only; omega) (by dsimp only; omega) (by dsimp only; omega)
    have HB3 := Lib.hid (HB2.out.trans (hb3.mono HB2.out.size))
    have HHR := Lib.hid ((hb3.block (gx + 1) hgw).trans HHR.out)
    have hgw := Nat.lt_of_lt_of_le hgw hb3.size
    have hgqw := Nat.lt_of_lt_of_le hgqw hb3.size
    have HQ3 := Lib.hid (HQW.out.to hb3 (Nat.le_refl _) hb3.size)
    clear hb3 HQW HBQ
    by_cases hz : q = 0
    · have hsg : q.num.sign = 0 := by rw [hz]; rfl
      rw [hsg]
      rw [if_pos hz] at HV
      clear hsg hz
      obtain ⟨hr0, hr1, hf0, hf1⟩ := two_cells HHR.out
      go_wp2_with fail
      exact end_ratio rfl rfl rfl hr0 hr1 ⟨by rw [HV.out]; rfl, set2_below' HB3.out (by have := HGX.out; omega)⟩
    · have hsg : (q.num.sign == 0) = false := by
        refine beq_eq_false_iff_ne.2 fun h => hz (Rat.num_eq_zero.1 (Int.sign_eq_zero_iff_zero.1 h))
      rw [if_neg hz] at HV
      have HNZ := Lib.hid hz
      obtain ⟨sg, hsge⟩ : ∃ sg, q.num.sign = sg := ⟨_, rfl⟩
      rw [hsge] at hsg ⊢
      clear hz hsge
      go_upto_region 7 with (fail)
      obtain ⟨W, rfl⟩ : ∃ Wx : World, Wx = w3 := ⟨_, rfl⟩
      have HBX0 := Lib.hid HB3.out.size
      have HSV := Lib.hid HB3.out
      clear HB3
      obtain ⟨W, rfl⟩ : ∃ Wx : World, Wx = W := ⟨_, rfl⟩
      refine wp_region_text 6 (fun x => x.cell? ⟨gq, 0, none⟩ = some (.bool ng1) ∧ x.cell? ⟨gq, 1, none⟩ = some (.slice A1 n1 c1) ∧ x.cell? ⟨gq, 2, none⟩ = some (.slice D1 m1 d1)) (by kernel_rfl) (by kernel_rfl) ?_
      have hS : W.drew.cell? ⟨gq, 0, none⟩ = some (.bool ng1) ∧ W.drew.cell? ⟨gq, 1, none⟩ = some (.slice A1 n1 c1) ∧ W.drew.cell? ⟨gq, 2, none⟩ = some (.slice D1 m1 d1) := ⟨x0, x1, x2⟩
      have hS0 := And.intro x0 (And.intro x1 x2)
      refine HT.load (i := 1) (oi := _) (v := ?_) rfl (by kernel_rfl) (by kernel_rfl) (by decide) (fun _ _ _ h => h) (by kernel_rfl) (Or.inl ⟨by rfl, ?_⟩) hS ?_
      rotate_left
      · intro wz hwz
        try dsimp only at hwz
        go_simp
        try with_reducible rfl
      simp only [List.getElem_toArray, List.getElem_cons_succ, List.getElem_cons_zero, Act.put, List.setIfInBounds_toArray, List.set_cons_zero, List.set_cons_succ]
      refine HT.one (i := 0) (o := _) rfl (by kernel_rfl) (by decide) (by rfl) ?_
      intro K hK
      go_simp
      refine (QWHOLE_any 1 (by omega) (by omega) _).mono ?_
      rintro e w1 ⟨ng4, A4, n4, c4, D4, m4, d4, rfl, h1, k4, l4, hb1⟩
      replace hb1 : Below W.heap.size W w1 := below_undrew hb1
      have H4 := Lib.hid h1
      have HB1 := Lib.hid hb1
      clear h1 hb1
      refine hK.out _ _ (three_keep hS0 HB1.out (by dsimp only; omega) (by dsimp only; omega) (by dsimp only; omega)) ?_
      clear hK K hS
      have hS := three_keep hS0 HB1.out (by dsimp only; omega) (by dsimp only; omega) (by dsimp only; omega)
      try simp only [List.getElem_toArray, List.getElem_cons_succ, List.getElem_cons_zero, Act.put, List.setIfInBounds_toArray, List.set_cons_zero, List.set_cons_succ]
      refine HT.one (i := 2) (o := _) rfl (by kernel_rfl) (by decide) (by rfl) ?_
      intro K hK
      go_simp
      refine (QDIV_any ng4 ng1 A4 A1 D4 D1 n4 c4 m4 d4 n1 c1 m1 d1 _ q (by omega) (by omega) (by omega) (by omega) HNZ.out _ w1.heap.size (Nat.le_refl _) H4 (Lib.hid (HQ3.out.to HB1.out (Nat.le_refl _) HB1.out.size))).mono ?_
      rintro e w2 ⟨ng5, A5, n5, c5, D5, m5, d5, rfl, h5, k5, l5, hb2⟩
      have H5 := Lib.hid h5
      have HB2 := Lib.hid (HB1.out.trans (hb2.mono HB1.out.size))
      clear h5 hb2
      refine hK.out _ _ (three_keep hS0 HB2.out (by dsimp only; omega) (by dsimp only; omega) (by dsimp only; omega)) ?_
      clear hK K hS
      have hS := three_keep hS0 HB2.out (by dsimp only; omega) (by dsimp only; omega) (by dsimp only; omega)
      try simp only [List.getElem_toArray, List.getElem_cons_succ, List.getElem_cons_zero, Act.put, List.setIfInBounds_toArray, List.set_cons_zero, List.set_cons_succ]
      refine HT.one (i := 3) (o := _) rfl (by kernel_rfl) (by decide) (by rfl) ?_
      intro K hK
      go_simp
      refine (RESULT_any ng5 A5 D5 n5 c5 m5 d5 _ (by omega) (by omega) _ w2.heap.size (Nat.le_refl _) H5).mono ?_
      rintro e w4 ⟨rfl, hb4⟩
      have HB4 := Lib.hid (HB2.out.trans (hb4.mono HB2.out.size))
      clear hb4
      rw [show (((1 : Int) : Rat) / q) = 1 / q from rfl]
      obtain ⟨⟨S, T, f⟩, hV⟩ : ∃ p, resP (1 / q) = p := ⟨_, rfl⟩
      have HVV := Lib.hid hV
      rw [hV]
      clear hV
      unfold tup3
      dsimp only
      refine hK.out _ _ (three_keep hS0 HB4.out (by dsimp only; omega) (by dsimp only; omega) (by dsimp only; omega)) ?_
      clear hK K hS
      have hS := three_keep hS0 HB4.out (by dsimp only; omega) (by dsimp only; omega) (by dsimp only; omega)
      try simp only [List.getElem_toArray, List.getElem_cons_succ, List.getElem_cons_zero, Act.put, List.setIfInBounds_toArray, List.set_cons_zero, List.set_cons_succ]
      refine HT.take (i := 4) (oi := _) (v := ?_) rfl (by kernel_rfl) (by kernel_rfl) (by decide) (fun _ _ _ h => h) (Or.inl ⟨by rfl, ?_⟩) hS ?_
      rotate_left
      · intro wz
        go_simp
        try with_reducible rfl
      simp only [List.getElem_toArray, List.getElem_cons_succ, List.getElem_cons_zero, Act.put, List.setIfInBounds_toArray, List.set_cons_zero, List.set_cons_succ]
      refine HT.take (i := 5) (oi := _) (v := ?_) rfl (by kernel_rfl) (by kernel_rfl) (by decide) (fun _ _ _ h => h) (Or.inl ⟨by rfl, ?_⟩) hS ?_
      rotate_left
      · intro wz
        go_simp
        try with_reducible rfl
      simp only [List.getElem_toArray, List.getElem_cons_succ, List.getElem_cons_zero, Act.put, List.setIfInBounds_toArray, List.set_cons_zero, List.set_cons_succ]
      obtain ⟨hr0, hr1, hf0, hf1⟩ := two_cells ((HB4.out.block (gx + 1) hgw).trans HHR.out)
      obtain ⟨z0, _⟩ := hS
      have hS := z0
      refine HT.done (by kernel_rfl) ?_
      clear hS
      simp only [List.drop_succ_cons, List.drop_zero]
      go_wp2_with fail
      exact end_ratio rfl rfl rfl hr0 hr1 ⟨by rw [HV.out, HVV.out]; rfl, set2_below' (HSV.out.trans (HB4.out.mono HBX0.out)) (by have := HGX.out; omega)⟩
  · have h1 : (k != 0) = true := by simpa using h0
    have HV : Hid (invS s t = (noB, noB, k)) := by show _ = _; unfold invS; rw [if_neg (by rw [HK.out]; exact h0), HK.out]
    obtain ⟨hr0, hr1, hf0, hf1⟩ := two_cells HHR.out
    clear h0
    go_wp2_with fail
    exact end_ratio rfl rfl rfl hr0 hr1 ⟨by rw [HV.out]; rfl, set2_below' HB0.out (by have := HGX.out; omega)⟩
end Go.Proofs.YtcjdmffflepplaaGreatDoor
