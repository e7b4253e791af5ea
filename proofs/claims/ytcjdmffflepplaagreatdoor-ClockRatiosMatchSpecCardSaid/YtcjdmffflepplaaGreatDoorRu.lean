/- The document's Order, Inverse. -/
import Derived.Test.YtcjdmffflepplaaGreatDoorRt
set_option linter.unusedSimpArgs false
set_option linter.unusedVariables false
namespace Go.Proofs.YtcjdmffflepplaaGreatDoor
open Go.RowKit Go.Dw Go.Joins
set_option maxRecDepth 100000 in
set_option maxHeartbeats 2000000 in
theorem RORDER_any (s t s' t' : ByteArray) (hs : s.size ≤ maxLen) (ht : t.size ≤ maxLen) (hs' : s'.size ≤ maxLen) (ht' : t'.size ≤ maxLen) (w : World) :
    Calls Tryz.prog 22 #[.agg #[.string s, .string t], .agg #[.string s', .string t']] w fun e w' => e = .returned (.tuple #[.int .i64 (ordS s t s' t').1, .int .i64 (ordS s t s' t').2]) ∧ Below w.heap.size w w' := by
  obtain ⟨W, gx, hW, hgx, HHW, HBW, HSW⟩ := boxes2 w (.cells #[.string s, .string t] 28) (.cells #[.string s', .string t'] 28)
  have HGX := Lib.hid hgx
  obtain ⟨x0, x1, _, _⟩ := two_cells HHW.out.1
  obtain ⟨y0, y1, _, _⟩ := two_cells HHW.out.2
  have hgw := blk_lt HHW.out.2
  obtain ⟨k, hk⟩ : ∃ k, chk2 s t s' t' = k := ⟨_, rfl⟩
  have HK := Lib.hid hk
  clear hk
  go_enter Tryz.func22, Tryz.ntmps22
  go_upto_region 1 with (fail)
  rw [← hW, ← hgx]
  clear hW hgx
  go_wp2_with fail
  refine (RBOTH1_any s t s' t' hs ht hs' ht' _).mono ?_
  rintro e w0 ⟨rfl, hb0⟩
  rw [HK.out]
  obtain ⟨x0, x1, y0, y1⟩ := four_keep (And.intro x0 (And.intro x1 (And.intro y0 y1))) hb0 (by dsimp only; omega) (by dsimp only; omega) (by dsimp only; omega) (by dsimp only; omega)
  have HB0 := Lib.hid (HBW.out.trans (hb0.mono HBW.out.size))
  have hgw := Nat.lt_of_lt_of_le hgw hb0.size
  clear hb0 HHW HSW
  by_cases h0 : k = 0
  · subst h0
    have HR1 := Lib.hid (chk2_zero HK.out).1
    have HR2 := Lib.hid (chk2_zero HK.out).2
    obtain ⟨q, hq⟩ : ∃ q, valQ s t = q := ⟨_, rfl⟩
    obtain ⟨r, hr⟩ : ∃ r, valQ s' t' = r := ⟨_, rfl⟩
    rw [hq] at HR1
    rw [hr] at HR2
    have HV : Hid (ordS s t s' t' = (cmpQ q r, 0)) := ordS_rt HR1.out HR2.out
    clear hq hr HK
    go_upto_region 4 with (fail)
    obtain ⟨W, rfl⟩ : ∃ Wx : World, Wx = w0 := ⟨_, rfl⟩
    have HBX0 := Lib.hid HB0.out.size
    obtain ⟨W, rfl⟩ : ∃ Wx : World, Wx = W := ⟨_, rfl⟩
    refine wp_region_text 7 (fun x => x.cell? ⟨gx, 0, none⟩ = some (.string s) ∧ x.cell? ⟨gx, 1, none⟩ = some (.string t) ∧ x.cell? ⟨gx + 1, 0, none⟩ = some (.string s') ∧ x.cell? ⟨gx + 1, 1, none⟩ = some (.string t')) (by kernel_rfl) (by kernel_rfl) ?_
    have hS : W.drew.cell? ⟨gx, 0, none⟩ = some (.string s) ∧ W.drew.cell? ⟨gx, 1, none⟩ = some (.string t) ∧ W.drew.cell? ⟨gx + 1, 0, none⟩ = some (.string s') ∧ W.drew.cell? ⟨gx + 1, 1, none⟩ = some (.string t') := ⟨x0, x1, y0, y1⟩
    have hS0 := And.intro x0 (And.intro x1 (And.intro y0 y1))
    refine HT.load (i := 0) (oi := _) (v := ?_) rfl (by kernel_rfl) (by kernel_rfl) (by decide) (fun _ _ _ h => h) (by kernel_rfl) (Or.inl ⟨by rfl, ?_⟩) hS ?_
    rotate_left
    · intro wz hwz
      try dsimp only at hwz
      go_simp
      try with_reducible rfl
    simp only [List.getElem_toArray, List.getElem_cons_succ, List.getElem_cons_zero, Act.put, List.setIfInBounds_toArray, List.set_cons_zero, List.set_cons_succ]
    refine HT.load (i := 2) (oi := _) (v := ?_) rfl (by kernel_rfl) (by kernel_rfl) (by decide) (fun _ _ _ h => h) (by kernel_rfl) (Or.inl ⟨by rfl, ?_⟩) hS ?_
    rotate_left
    · intro wz hwz
      try dsimp only at hwz
      go_simp
      try with_reducible rfl
    simp only [List.getElem_toArray, List.getElem_cons_succ, List.getElem_cons_zero, Act.put, List.setIfInBounds_toArray, List.set_cons_zero, List.set_cons_succ]
    refine HT.one (i := 1) (o := _) rfl (by kernel_rfl) (by decide) (by rfl) ?_
    intro K hK
    go_simp
    refine (ROF_ok HR1.out _).mono ?_
    rintro e w1 ⟨ng1, A1, n1, c1, D1, m1, d1, rfl, h1, k1, l1, hb1⟩
    replace hb1 : Below W.heap.size W w1 := below_undrew hb1
    have H1 := Lib.hid h1
    have HB1 := Lib.hid hb1
    clear h1 hb1
    refine hK.out _ _ (four_keep hS0 HB1.out (by dsimp only; omega) (by dsimp only; omega) (by dsimp only; omega) (by dsimp only; omega)) ?_
    clear hK K hS
    have hS := four_keep hS0 HB1.out (by dsimp only; omega) (by dsimp only; omega) (by dsimp only; omega) (by dsimp only; omega)
    try simp only [List.getElem_toArray, List.getElem_cons_succ, List.getElem_cons_zero, Act.put, List.setIfInBounds_toArray, List.set_cons_zero, List.set_cons_succ]
    refine HT.one (i := 3) (o := _) rfl (by kernel_rfl) (by decide) (by rfl) ?_
    intro K hK
    go_simp
    refine (ROF_ok HR2.out _).mono ?_
    rintro e w2 ⟨ng2, A2, n2, c2, D2, m2, d2, rfl, h2, k2, l2, hb2⟩
    have H2 := Lib.hid h2
    have HB2 := Lib.hid (HB1.out.trans (hb2.mono HB1.out.size))
    have HL2 := Lib.hid hb2
    clear h2 hb2
    refine hK.out _ _ (four_keep hS0 HB2.out (by dsimp only; omega) (by dsimp only; omega) (by dsimp only; omega) (by dsimp only; omega)) ?_
    clear hK K hS
    have hS := four_keep hS0 HB2.out (by dsimp only; omega) (by dsimp only; omega) (by dsimp only; omega) (by dsimp only; omega)
    try simp only [List.getElem_toArray, List.getElem_cons_succ, List.getElem_cons_zero, Act.put, List.setIfInBounds_toArray, List.set_cons_zero, List.set_cons_succ]
    refine HT.one (i := 4) (o := _) rfl (by kernel_rfl) (by decide) (by rfl) ?_
    intro K hK
    go_simp
    refine (RCOMPARE_any ng1 ng2 A1 A2 D1 D2 n1 c1 m1 d1 n2 c2 m2 d2 q r (by omega) (by omega) (by omega) (by omega) _ w2.heap.size (Nat.le_refl _) (Lib.hid (H1.out.to HL2.out (Nat.le_refl _) HL2.out.size)) H2).mono ?_
    rintro e w3 ⟨rfl, hb3⟩
    have HB3 := Lib.hid (HB2.out.trans (hb3.mono HB2.out.size))
    clear hb3
    refine hK.out _ _ (four_keep hS0 HB3.out (by dsimp only; omega) (by dsimp only; omega) (by dsimp only; omega) (by dsimp only; omega)) ?_
    clear hK K hS
    have hS := four_keep hS0 HB3.out (by dsimp only; omega) (by dsimp only; omega) (by dsimp only; omega) (by dsimp only; omega)
    try simp only [List.getElem_toArray, List.getElem_cons_succ, List.getElem_cons_zero, Act.put, List.setIfInBounds_toArray, List.set_cons_zero, List.set_cons_succ]
    refine HT.take (i := 5) (oi := _) (v := ?_) rfl (by kernel_rfl) (by kernel_rfl) (by decide) (fun _ _ _ h => h) (Or.inl ⟨by rfl, ?_⟩) hS ?_
    rotate_left
    · intro wz
      go_simp
      try with_reducible rfl
    simp only [List.getElem_toArray, List.getElem_cons_succ, List.getElem_cons_zero, Act.put, List.setIfInBounds_toArray, List.set_cons_zero, List.set_cons_succ]
    refine HT.take (i := 6) (oi := _) (v := ?_) rfl (by kernel_rfl) (by kernel_rfl) (by decide) (fun _ _ _ h => h) (Or.inl ⟨by rfl, ?_⟩) hS ?_
    rotate_left
    · intro wz
      go_simp
      try with_reducible rfl
    simp only [List.getElem_toArray, List.getElem_cons_succ, List.getElem_cons_zero, Act.put, List.setIfInBounds_toArray, List.set_cons_zero, List.set_cons_succ]
    refine HT.done (by kernel_rfl) ?_
    clear hS
    simp only [List.drop_succ_cons, List.drop_zero]
    go_wp2_with fail
    go_ret2
    exact ⟨by rw [HV.out]; rfl, HB0.out.trans (HB3.out.mono HBX0.out)⟩
  · have h1 : (k != 0) = true := by simpa using h0
    have HV : Hid (ordS s t s' t' = (0, k)) := by show _ = _; unfold ordS; rw [if_neg (by rw [HK.out]; exact h0), HK.out]
    clear h0
    go_wp2_with fail
    go_ret2
    exact ⟨by rw [HV.out]; rfl, HB0.out⟩
theorem tx_zero_iff (q : Rat) : (txN q).toList = [48] ↔ q = 0 := by
  rw [ByteArray.toList_eq]
  constructor
  · intro h
    have h1 := txN_parse q
    have h2 : txN q = ⟨#[48]⟩ := ba_ext h
    rw [h2] at h1
    refine Rat.num_eq_zero.1 ?_
    rw [← h1]
    decide
  · intro h; rw [h, tx_zero]
set_option maxRecDepth 100000 in
set_option maxHeartbeats 2000000 in
theorem RINVERSE_any (s t : ByteArray) (hs : s.size ≤ maxLen) (ht : t.size ≤ maxLen) (w : World) (ht9 : Hid (TabAt w)) :
    Calls Tryz.prog 20 #[.agg #[.string s, .string t]] w fun e w' => e = .returned (tup3 (invS s t)) ∧ Below w.heap.size w w' := by
  obtain ⟨W, gx, hW, hgx, HHW, HBW, HSW⟩ := boxes2 w (.cells #[.string s, .string t] 28) (.cells #[.string ⟨#[]⟩, .string ⟨#[]⟩] 28)
  have HGX := Lib.hid hgx
  obtain ⟨x0, x1, _, _⟩ := two_cells HHW.out.1
  have hgw := blk_lt HHW.out.2
  obtain ⟨k, hk⟩ : ∃ k, chkQ s t = k := ⟨_, rfl⟩
  have HK := Lib.hid hk
  clear hk
  go_enter Tryz.func20, Tryz.ntmps20
  go_upto_region 1 with (fail)
  rw [← hW, ← hgx]
  clear hW hgx
  go_wp2_with fail
  refine (RCHECKRATIO_any s t hs ht _).mono ?_
  rintro e w0 ⟨rfl, hb0⟩
  rw [HK.out]
  obtain ⟨x0, x1⟩ := two_keep (And.intro x0 x1) hb0 (by dsimp only; omega) (by dsimp only; omega)
  have HB0 := Lib.hid (HBW.out.trans (hb0.mono HBW.out.size))
  have HHR := Lib.hid ((hb0.block (gx + 1) hgw).trans HHW.out.2)
  have hgw := Nat.lt_of_lt_of_le hgw hb0.size
  clear hb0 HHW HSW
  by_cases h0 : k = 0
  · subst h0
    have HR1 := Lib.hid (Rt.of HK.out)
    obtain ⟨q, hq⟩ : ∃ q, valQ s t = q := ⟨_, rfl⟩
    rw [hq] at HR1
    have HV : Hid (invS s t = if q = 0 then (noB, noB, 13) else resP (1 / q)) := invS_rt HR1.out
    have hzi := tx_zero_iff q
    rw [← HR1.out.num] at hzi
    clear hq HK
    by_cases hz : q = 0
    · have hzz : (s.toList == [48]) = true := by rw [hzi.2 hz]; rfl
      rw [if_pos hz] at HV
      clear hz hzi
      obtain ⟨hr0, hr1, hf0, hf1⟩ := two_cells HHR.out
      go_wp2_with fail
      exact end_ratio rfl rfl rfl hr0 hr1 ⟨by rw [HV.out]; rfl, set2_below' HB0.out (by have := HGX.out; omega)⟩
    · have hzz : (s.toList == [48]) = false := beq_eq_false_iff_ne.2 fun h => hz (hzi.1 h)
      rw [if_neg hz, resP_few (by rw [few_inv hz]; exact HR1.out.few)] at HV
      have HNZ := Lib.hid hz
      clear hz hzi
      go_upto_region 6 with (fail)
      obtain ⟨W, rfl⟩ : ∃ Wx : World, Wx = w0 := ⟨_, rfl⟩
      have HBX0 := Lib.hid HB0.out.size
      refine wp_region_text 5 (fun x => x.cell? ⟨gx, 0, none⟩ = some (.string s) ∧ x.cell? ⟨gx, 1, none⟩ = some (.string t)) (by kernel_rfl) (by kernel_rfl) ?_
      have hS : W.drew.cell? ⟨gx, 0, none⟩ = some (.string s) ∧ W.drew.cell? ⟨gx, 1, none⟩ = some (.string t) := ⟨x0, x1⟩
      have hS0 := And.intro x0 x1
      refine HT.load (i := 1) (oi := _) (v := ?_) rfl (by kernel_rfl) (by kernel_rfl) (by decide) (fun _ _ _ h => h) (by kernel_rfl) (Or.inl ⟨by rfl, ?_⟩) hS ?_
      rotate_left
      · intro wz hwz
        try dsimp only at hwz
        go_simp
        try with_reducible rfl
      simp only [List.getElem_toArray, List.getElem_cons_succ, List.getElem_cons_zero, Act.put, List.setIfInBounds_toArray, List.set_cons_zero, List.set_cons_succ]
      refine HT.one (i := 0) (o := _) rfl (by kernel_rfl) (by decide) (by rfl) ?_
      intro K hK
      go_simp
      have HTD : Hid (TabAt W.drew) := ht9.out.to (show Below w.heap.size w W.drew from HB0.out.drew) (Nat.le_refl _)
      refine (RINT_any 1 (by omega) (by omega) _ HTD).mono ?_
      rintro e w1 ⟨ng4, A4, n4, c4, D4, m4, d4, rfl, h1, k4, l4, hb1⟩
      replace hb1 : Below W.heap.size W w1 := below_undrew hb1
      have H4 := Lib.hid h1
      have HB1 := Lib.hid hb1
      clear h1 hb1
      refine hK.out _ _ (two_keep hS0 HB1.out (by dsimp only; omega) (by dsimp only; omega)) ?_
      clear hK K hS
      have hS := two_keep hS0 HB1.out (by dsimp only; omega) (by dsimp only; omega)
      try simp only [List.getElem_toArray, List.getElem_cons_succ, List.getElem_cons_zero, Act.put, List.setIfInBounds_toArray, List.set_cons_zero, List.set_cons_succ]
      refine HT.one (i := 2) (o := _) rfl (by kernel_rfl) (by decide) (by rfl) ?_
      intro K hK
      go_simp
      refine (ROF_ok HR1.out _).mono ?_
      rintro e w2 ⟨ng5, A5, n5, c5, D5, m5, d5, rfl, h5, k5, l5, hb2⟩
      have H5 := Lib.hid h5
      have H4' := Lib.hid (H4.out.to hb2 (Nat.le_refl _) hb2.size)
      have HB2 := Lib.hid (HB1.out.trans (hb2.mono HB1.out.size))
      clear h5 hb2
      refine hK.out _ _ (two_keep hS0 HB2.out (by dsimp only; omega) (by dsimp only; omega)) ?_
      clear hK K hS
      have hS := two_keep hS0 HB2.out (by dsimp only; omega) (by dsimp only; omega)
      try simp only [List.getElem_toArray, List.getElem_cons_succ, List.getElem_cons_zero, Act.put, List.setIfInBounds_toArray, List.set_cons_zero, List.set_cons_succ]
      refine HT.one (i := 3) (o := _) rfl (by kernel_rfl) (by decide) (by rfl) ?_
      intro K hK
      go_simp
      refine (ROVER_any ng4 ng5 A4 A5 D4 D5 n4 c4 m4 d4 n5 c5 m5 d5 _ q (by omega) (by omega) (by omega) (by omega) HNZ.out _ w2.heap.size (Nat.le_refl _) H4' H5).mono ?_
      rintro e w3 ⟨ng6, A6, n6, c6, D6, m6, d6, rfl, h6, k6, l6, hb3⟩
      have H6 := Lib.hid h6
      have HB3 := Lib.hid (HB2.out.trans (hb3.mono HB2.out.size))
      clear h6 hb3
      refine hK.out _ _ (two_keep hS0 HB3.out (by dsimp only; omega) (by dsimp only; omega)) ?_
      clear hK K hS
      have hS := two_keep hS0 HB3.out (by dsimp only; omega) (by dsimp only; omega)
      try simp only [List.getElem_toArray, List.getElem_cons_succ, List.getElem_cons_zero, Act.put, List.setIfInBounds_toArray, List.set_cons_zero, List.set_cons_succ]
      refine HT.one (i := 4) (o := _) rfl (by kernel_rfl) (by decide) (by rfl) ?_
      intro K hK
      go_simp
      refine (ROUT_any ng6 A6 D6 n6 c6 m6 d6 _ (by omega) (by omega) _ (Lib.hid (ht9.out.to (HB0.out.trans (HB3.out.mono HBX0.out)) (Nat.le_refl _))) w3.heap.size (Nat.le_refl _) H6).mono ?_
      rintro e w4 ⟨rfl, hb4⟩
      have HB4 := Lib.hid (HB3.out.trans (hb4.mono HB3.out.size))
      clear hb4
      rw [show (((1 : Int) : Rat) / q) = 1 / q from rfl]
      obtain ⟨S, hS9⟩ : ∃ S, txN (1 / q) = S := ⟨_, rfl⟩
      obtain ⟨T, hT9⟩ : ∃ S, txD (1 / q) = S := ⟨_, rfl⟩
      rw [hS9, hT9] at HV ⊢
      clear hS9 hT9
      refine hK.out _ _ (two_keep hS0 HB4.out (by dsimp only; omega) (by dsimp only; omega)) ?_
      clear hK K hS
      have hS := two_keep hS0 HB4.out (by dsimp only; omega) (by dsimp only; omega)
      try simp only [List.getElem_toArray, List.getElem_cons_succ, List.getElem_cons_zero, Act.put, List.setIfInBounds_toArray, List.set_cons_zero, List.set_cons_succ]
      obtain ⟨hr0, hr1, hf0, hf1⟩ := two_cells ((HB4.out.block (gx + 1) hgw).trans HHR.out)
      obtain ⟨z0, _⟩ := hS
      have hS := z0
      refine HT.done (by kernel_rfl) ?_
      clear hS
      simp only [List.drop_succ_cons, List.drop_zero]
      go_wp2_with fail
      exact end_ratio rfl rfl rfl hr0 hr1 ⟨by rw [HV.out]; rfl, set2_below' (HB0.out.trans (HB4.out.mono HBX0.out)) (by have := HGX.out; omega)⟩
  · have h1 : (k != 0) = true := by simpa using h0
    have HV : Hid (invS s t = (noB, noB, k)) := by show _ = _; unfold invS; rw [if_neg (by rw [HK.out]; exact h0), HK.out]
    obtain ⟨hr0, hr1, hf0, hf1⟩ := two_cells HHR.out
    clear h0
    go_wp2_with fail
    exact end_ratio rfl rfl rfl hr0 hr1 ⟨by rw [HV.out]; rfl, set2_below' HB0.out (by have := HGX.out; omega)⟩
end Go.Proofs.YtcjdmffflepplaaGreatDoor
