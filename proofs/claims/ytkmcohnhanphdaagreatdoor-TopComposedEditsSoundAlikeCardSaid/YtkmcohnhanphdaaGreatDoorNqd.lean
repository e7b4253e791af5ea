/- num.Rat: Div, Add. -/
import Derived.Test.YtkmcohnhanphdaaGreatDoorYh
set_option linter.unusedSimpArgs false
set_option linter.unusedVariables false
namespace Go.Proofs.YtkmcohnhanphdaaGreatDoor
open Go.RowKit Go.Dw
theorem add_eq (q r : Rat) : q + r = mkRat (q.num * r.den + r.num * q.den) (q.den * r.den) := by rw [Rat.add_def, Rat.normalize_eq_mkRat]
theorem add_eq_same (q r : Rat) (h : q.den = r.den) : q + r = mkRat (q.num + r.num) q.den := by
  rw [add_eq, ← h, ← Int.add_mul]
  exact Rat.mkRat_mul_right (by have := q.den_pos; omega)
set_option maxRecDepth 100000 in
set_option maxHeartbeats 4000000 in
theorem QADD_any (neg neg' : Bool) (A A' D D' : Option Addr) (n c m d n' c' m' d' : Nat) (q r : Rat) (hn : n ≤ 10000000) (hm : m ≤ 10000000) (hn' : n' ≤ 10000000) (hm' : m' ≤ 10000000) (w : World) (B : Nat) (hB : B ≤ w.heap.size) (hh : Hid (RatAt w B neg A n c D m d q)) (hh' : Hid (RatAt w B neg' A' n' c' D' m' d' r)) :
    Calls Tryz.prog 72 #[.agg #[.bool neg, .slice A n c, .slice D m d], .agg #[.bool neg', .slice A' n' c', .slice D' m' d']] w (OutQ w (q + r) (max (n + m') (n' + m) + 1) (m + m')) := by
  obtain ⟨W, gx, hW, hgx, HHW, HBX, HSW⟩ := boxes3 w (.cells #[.bool neg, .slice A n c, .slice D m d] 88) (.cells #[.bool neg', .slice A' n' c', .slice D' m' d'] 88) (.cells #[.bool false, .slice none 0 0, .slice none 0 0] 88)
  have HGX := Lib.hid hgx
  obtain ⟨x0, x1, x2, _, _, _⟩ := three_cells HHW.out.1
  obtain ⟨y0, y1, y2, _, _, _⟩ := three_cells HHW.out.2.1
  have HHR := Lib.hid HHW.out.2.2
  have hgw := blk_lt HHW.out.2.2
  have HRW := Lib.hid (hh.out.to HBX.out hB (by have := HSW.out; omega))
  have HRW' := Lib.hid (hh'.out.to HBX.out hB (by have := HSW.out; omega))
  have HBX0 := Lib.hid (HBX.out.size)
  obtain ⟨k, hk⟩ : ∃ k, cmpN q.den r.den = k := ⟨_, rfl⟩
  have HK := Lib.hid hk
  clear hk
  go_enter Tryz.func72, Tryz.ntmps72
  go_upto_region 1 with (fail)
  rw [← hW, ← hgx]
  clear hW hgx
  go_wp2_with fail
  refine (NCMP_below D D' m d _ m' d' _ _ W.heap.size (Lib.hid HRW.out.2) (Lib.hid HRW'.out.2)).mono ?_
  rintro e w0 ⟨rfl, hb0⟩
  rw [HK.out]
  obtain ⟨x0, x1, x2, y0, y1, y2⟩ := six_keep (And.intro x0 (And.intro x1 (And.intro x2 (And.intro y0 (And.intro y1 y2))))) hb0 (by omega) (by omega)
  have HHR := Lib.hid ((hb0.block (gx + 1 + 1) hgw).trans HHR.out)
  have hgw := Nat.lt_of_lt_of_le hgw hb0.size
  have HRW := Lib.hid (HRW.out.to hb0 (Nat.le_refl _) hb0.size)
  have HRW' := Lib.hid (HRW'.out.to hb0 (Nat.le_refl _) hb0.size)
  have HBX := Lib.hid (HBX.out.trans (hb0.mono HBX0.out))
  have HBX0 := Lib.hid HBX.out.size
  clear hb0 HHW HSW
  obtain ⟨W, rfl⟩ : ∃ Wx : World, Wx = w0 := ⟨_, rfl⟩
  have hm0 : 0 < m := (HRW.out.2.pos_iff (by omega)).2 q.den_pos
  have hm0' : 0 < m' := (HRW'.out.2.pos_iff (by omega)).2 r.den_pos
  by_cases hden : q.den = r.den
  · obtain rfl : k = 0 := by rw [← HK.out]; exact cmpN_eq hden
    have HDEN := Lib.hid hden
    clear hden
    go_upto_region 2 with (fail)
    obtain ⟨W, rfl⟩ : ∃ Wx : World, Wx = W := ⟨_, rfl⟩
    refine wp_region_text 8 (fun x => x.cell? ⟨gx, 0, none⟩ = some (.bool neg) ∧ x.cell? ⟨gx, 1, none⟩ = some (.slice A n c) ∧ x.cell? ⟨gx, 2, none⟩ = some (.slice D m d) ∧ x.cell? ⟨gx + 1, 0, none⟩ = some (.bool neg') ∧ x.cell? ⟨gx + 1, 1, none⟩ = some (.slice A' n' c') ∧ x.cell? ⟨gx + 1, 2, none⟩ = some (.slice D' m' d')) (by kernel_rfl) (by kernel_rfl) ?_
    have hS : W.drew.cell? ⟨gx, 0, none⟩ = some (.bool neg) ∧ W.drew.cell? ⟨gx, 1, none⟩ = some (.slice A n c) ∧ W.drew.cell? ⟨gx, 2, none⟩ = some (.slice D m d) ∧ W.drew.cell? ⟨gx + 1, 0, none⟩ = some (.bool neg') ∧ W.drew.cell? ⟨gx + 1, 1, none⟩ = some (.slice A' n' c') ∧ W.drew.cell? ⟨gx + 1, 2, none⟩ = some (.slice D' m' d') := ⟨x0, x1, x2, y0, y1, y2⟩
    have hS0 := And.intro x0 (And.intro x1 (And.intro x2 (And.intro y0 (And.intro y1 y2))))
    refine HT.take (i := 0) (oi := _) (v := ?_) rfl (by kernel_rfl) (by kernel_rfl) (by decide) (fun _ _ _ h => h) (Or.inl ⟨by rfl, ?_⟩) hS ?_
    rotate_left
    · intro wz
      go_simp
      try with_reducible rfl
    simp only [zA, zB, zC, Act.put, zD, zE, zF]
    refine HT.load (i := 1) (oi := _) (v := ?_) rfl (by kernel_rfl) (by kernel_rfl) (by decide) (fun _ _ _ h => h) (by kernel_rfl) (Or.inl ⟨by rfl, ?_⟩) hS ?_
    rotate_left
    · intro wz hwz
      try dsimp only at hwz
      go_simp
      try with_reducible rfl
    simp only [zA, zB, zC, Act.put, zD, zE, zF]
    refine HT.take (i := 2) (oi := _) (v := ?_) rfl (by kernel_rfl) (by kernel_rfl) (by decide) (fun _ _ _ h => h) (Or.inl ⟨by rfl, ?_⟩) hS ?_
    rotate_left
    · intro wz
      go_simp
      try with_reducible rfl
    simp only [zA, zB, zC, Act.put, zD, zE, zF]
    refine HT.load (i := 3) (oi := _) (v := ?_) rfl (by kernel_rfl) (by kernel_rfl) (by decide) (fun _ _ _ h => h) (by kernel_rfl) (Or.inl ⟨by rfl, ?_⟩) hS ?_
    rotate_left
    · intro wz hwz
      try dsimp only at hwz
      go_simp
      try with_reducible rfl
    simp only [zA, zB, zC, Act.put, zD, zE, zF]
    refine HT.take (i := 5) (oi := _) (v := ?_) rfl (by kernel_rfl) (by kernel_rfl) (by decide) (fun _ _ _ h => h) (Or.inl ⟨by rfl, ?_⟩) hS ?_
    rotate_left
    · intro wz
      go_simp
      try with_reducible rfl
    simp only [zA, zB, zC, Act.put, zD, zE, zF]
    refine HT.load (i := 6) (oi := _) (v := ?_) rfl (by kernel_rfl) (by kernel_rfl) (by decide) (fun _ _ _ h => h) (by kernel_rfl) (Or.inl ⟨by rfl, ?_⟩) hS ?_
    rotate_left
    · intro wz hwz
      try dsimp only at hwz
      go_simp
      try with_reducible rfl
    simp only [zA, zB, zC, Act.put, zD, zE, zF]
    refine HT.one (i := 4) (o := _) rfl (by kernel_rfl) (by decide) (by rfl) ?_
    intro K hK
    go_simp
    refine (IADD_any neg neg' A A' n c n' c' q.num r.num (by omega) (by omega) _ W.heap.size (by exact Nat.le_refl _) (by exact Lib.hid HRW.out.1) (by exact Lib.hid HRW'.out.1)).mono ?_
    rintro e w1 ⟨ng1, A1, n1, c1, rfl, h1, k1, hb1⟩
    replace hb1 : Below W.heap.size W w1 := below_undrew hb1
    have H1 := Lib.hid h1
    have HB1 := Lib.hid hb1
    clear h1 hb1
    refine hK.out _ _ (six_keep hS0 HB1.out (by omega) (by omega)) ?_
    clear hK K hS
    have hS := six_keep hS0 HB1.out (by omega) (by omega)
    try simp only [zA, zB, zC, Act.put, zD, zE, zF]
    refine HT.one (i := 7) (o := _) rfl (by kernel_rfl) (by decide) (by rfl) ?_
    intro K hK
    go_simp
    refine (QOVER_any ng1 A1 D n1 c1 m d q.den (q.num + r.num) (by omega) (by omega) q.den_pos _ w1.heap.size (Nat.le_refl _) H1 (by exact Lib.hid (HRW.out.2.to HB1.out (Nat.le_refl _) HB1.out.size))).mono ?_
    rintro e w2 ⟨ng3, A3, n3, c3, A4, n4, c4, rfl, h2, k3, k4, hb2⟩
    have H2 := Lib.hid h2
    have HB2 := Lib.hid (HB1.out.trans (hb2.mono HB1.out.size))
    have HL2 := Lib.hid hb2
    clear h2 hb2
    refine hK.out _ _ (six_keep hS0 HB2.out (by omega) (by omega)) ?_
    clear hK K hS
    have hS := six_keep hS0 HB2.out (by omega) (by omega)
    try simp only [zA, zB, zC, Act.put, zD, zE, zF]
    have hhx := (HB2.out.block (gx + 1 + 1) hgw).trans HHR.out
    obtain ⟨hr0, hr1, hr2, hf0, hf1, hf2⟩ := three_cells hhx
    have HHX := Lib.hid hhx
    clear hhx
    refine HT.done (by kernel_rfl) ?_
    clear hS
    simp only [List.drop_succ_cons, List.drop_zero]
    go_wp2_with fail
    rw [add_eq_same q r HDEN.out]
    exact end_rat rfl rfl rfl hr0 hr1 hr2 (outQ_set (q := mkRat (q.num + r.num) q.den) H2.out.1.1 (by have := HGX.out; omega) ⟨_, _, HHX.out⟩ H2.out.1.2 H2.out.2 (HBX.out.trans (HB2.out.mono HBX0.out)) (by omega) (by omega))
  · have hkb : (k == 0) = false := by
      rw [← HK.out]
      unfold cmpN
      by_cases h1 : q.den < r.den
      · rw [if_pos h1]; rfl
      · rw [if_neg h1, if_neg hden]; rfl
    clear hden
    go_upto_region 3 with (fail)
    obtain ⟨W, rfl⟩ : ∃ Wx : World, Wx = W := ⟨_, rfl⟩
    refine wp_region_text 19 (fun x => x.cell? ⟨gx, 0, none⟩ = some (.bool neg) ∧ x.cell? ⟨gx, 1, none⟩ = some (.slice A n c) ∧ x.cell? ⟨gx, 2, none⟩ = some (.slice D m d) ∧ x.cell? ⟨gx + 1, 0, none⟩ = some (.bool neg') ∧ x.cell? ⟨gx + 1, 1, none⟩ = some (.slice A' n' c') ∧ x.cell? ⟨gx + 1, 2, none⟩ = some (.slice D' m' d')) (by kernel_rfl) (by kernel_rfl) ?_
    have hS : W.drew.cell? ⟨gx, 0, none⟩ = some (.bool neg) ∧ W.drew.cell? ⟨gx, 1, none⟩ = some (.slice A n c) ∧ W.drew.cell? ⟨gx, 2, none⟩ = some (.slice D m d) ∧ W.drew.cell? ⟨gx + 1, 0, none⟩ = some (.bool neg') ∧ W.drew.cell? ⟨gx + 1, 1, none⟩ = some (.slice A' n' c') ∧ W.drew.cell? ⟨gx + 1, 2, none⟩ = some (.slice D' m' d') := ⟨x0, x1, x2, y0, y1, y2⟩
    have hS0 := And.intro x0 (And.intro x1 (And.intro x2 (And.intro y0 (And.intro y1 y2))))
    refine HT.take (i := 0) (oi := _) (v := ?_) rfl (by kernel_rfl) (by kernel_rfl) (by decide) (fun _ _ _ h => h) (Or.inl ⟨by rfl, ?_⟩) hS ?_
    rotate_left
    · intro wz
      go_simp
      try with_reducible rfl
    simp only [zA, zB, zC, Act.put, zD, zE, zF]
    refine HT.load (i := 1) (oi := _) (v := ?_) rfl (by kernel_rfl) (by kernel_rfl) (by decide) (fun _ _ _ h => h) (by kernel_rfl) (Or.inl ⟨by rfl, ?_⟩) hS ?_
    rotate_left
    · intro wz hwz
      try dsimp only at hwz
      go_simp
      try with_reducible rfl
    simp only [zA, zB, zC, Act.put, zD, zE, zF]
    refine HT.take (i := 2) (oi := _) (v := ?_) rfl (by kernel_rfl) (by kernel_rfl) (by decide) (fun _ _ _ h => h) (Or.inl ⟨by rfl, ?_⟩) hS ?_
    rotate_left
    · intro wz
      go_simp
      try with_reducible rfl
    simp only [zA, zB, zC, Act.put, zD, zE, zF]
    refine HT.load (i := 3) (oi := _) (v := ?_) rfl (by kernel_rfl) (by kernel_rfl) (by decide) (fun _ _ _ h => h) (by kernel_rfl) (Or.inl ⟨by rfl, ?_⟩) hS ?_
    rotate_left
    · intro wz hwz
      try dsimp only at hwz
      go_simp
      try with_reducible rfl
    simp only [zA, zB, zC, Act.put, zD, zE, zF]
    refine HT.take (i := 4) (oi := _) (v := ?_) rfl (by kernel_rfl) (by kernel_rfl) (by decide) (fun _ _ _ h => h) (Or.inl ⟨by rfl, ?_⟩) hS ?_
    rotate_left
    · intro wz
      go_simp
      try with_reducible rfl
    simp only [zA, zB, zC, Act.put, zD, zE, zF]
    refine HT.take (i := 6) (oi := _) (v := ?_) rfl (by kernel_rfl) (by kernel_rfl) (by decide) (fun _ _ _ h => h) (Or.inl ⟨by rfl, ?_⟩) hS ?_
    rotate_left
    · intro wz
      go_simp
      try with_reducible rfl
    simp only [zA, zB, zC, Act.put, zD, zE, zF]
    refine HT.load (i := 7) (oi := _) (v := ?_) rfl (by kernel_rfl) (by kernel_rfl) (by decide) (fun _ _ _ h => h) (by kernel_rfl) (Or.inl ⟨by rfl, ?_⟩) hS ?_
    rotate_left
    · intro wz hwz
      try dsimp only at hwz
      go_simp
      try with_reducible rfl
    simp only [zA, zB, zC, Act.put, zD, zE, zF]
    refine HT.take (i := 8) (oi := _) (v := ?_) rfl (by kernel_rfl) (by kernel_rfl) (by decide) (fun _ _ _ h => h) (Or.inl ⟨by rfl, ?_⟩) hS ?_
    rotate_left
    · intro wz
      go_simp
      try with_reducible rfl
    simp only [zA, zB, zC, Act.put, zD, zE, zF]
    refine HT.load (i := 9) (oi := _) (v := ?_) rfl (by kernel_rfl) (by kernel_rfl) (by decide) (fun _ _ _ h => h) (by kernel_rfl) (Or.inl ⟨by rfl, ?_⟩) hS ?_
    rotate_left
    · intro wz hwz
      try dsimp only at hwz
      go_simp
      try with_reducible rfl
    simp only [zA, zB, zC, Act.put, zD, zE, zF]
    refine HT.take (i := 10) (oi := _) (v := ?_) rfl (by kernel_rfl) (by kernel_rfl) (by decide) (fun _ _ _ h => h) (Or.inl ⟨by rfl, ?_⟩) hS ?_
    rotate_left
    · intro wz
      go_simp
      try with_reducible rfl
    simp only [zA, zB, zC, Act.put, zD, zE, zF]
    refine HT.take (i := 13) (oi := _) (v := ?_) rfl (by kernel_rfl) (by kernel_rfl) (by decide) (fun _ _ _ h => h) (Or.inl ⟨by rfl, ?_⟩) hS ?_
    rotate_left
    · intro wz
      go_simp
      try with_reducible rfl
    simp only [zA, zB, zC, Act.put, zD, zE, zF]
    refine HT.load (i := 14) (oi := _) (v := ?_) rfl (by kernel_rfl) (by kernel_rfl) (by decide) (fun _ _ _ h => h) (by kernel_rfl) (Or.inl ⟨by rfl, ?_⟩) hS ?_
    rotate_left
    · intro wz hwz
      try dsimp only at hwz
      go_simp
      try with_reducible rfl
    simp only [zA, zB, zC, Act.put, zD, zE, zF]
    refine HT.take (i := 15) (oi := _) (v := ?_) rfl (by kernel_rfl) (by kernel_rfl) (by decide) (fun _ _ _ h => h) (Or.inl ⟨by rfl, ?_⟩) hS ?_
    rotate_left
    · intro wz
      go_simp
      try with_reducible rfl
    simp only [zA, zB, zC, Act.put, zD, zE, zF]
    refine HT.load (i := 16) (oi := _) (v := ?_) rfl (by kernel_rfl) (by kernel_rfl) (by decide) (fun _ _ _ h => h) (by kernel_rfl) (Or.inl ⟨by rfl, ?_⟩) hS ?_
    rotate_left
    · intro wz hwz
      try dsimp only at hwz
      go_simp
      try with_reducible rfl
    simp only [zA, zB, zC, Act.put, zD, zE, zF]
    refine HT.one (i := 5) (o := _) rfl (by kernel_rfl) (by decide) (by rfl) ?_
    intro K hK
    go_simp
    refine (IMUL_any neg false A D' n c m' d' q.num r.den (by omega) (by omega) _ W.heap.size (by exact Nat.le_refl _) (by exact Lib.hid HRW.out.1) (by exact Lib.hid (den_int HRW'.out.2))).mono ?_
    rintro e w1 ⟨ng1, A1, n1, c1, rfl, h1, k1, hb1⟩
    replace hb1 : Below W.heap.size W w1 := below_undrew hb1
    have H1 := Lib.hid h1
    have HB1 := Lib.hid hb1
    clear h1 hb1
    refine hK.out _ _ (six_keep hS0 HB1.out (by omega) (by omega)) ?_
    clear hK K hS
    have hS := six_keep hS0 HB1.out (by omega) (by omega)
    try simp only [zA, zB, zC, Act.put, zD, zE, zF]
    refine HT.one (i := 11) (o := _) rfl (by kernel_rfl) (by decide) (by rfl) ?_
    intro K hK
    go_simp
    refine (IMUL_any neg' false A' D n' c' m d r.num q.den (by omega) (by omega) _ W.heap.size (by exact HB1.out.size) (by exact Lib.hid (HRW'.out.1.below HB1.out (Nat.le_refl _))) (by exact Lib.hid (den_int (HRW.out.2.below HB1.out (Nat.le_refl _))))).mono ?_
    rintro e w2 ⟨ng2, A2, n2, c2, rfl, h2, k2, hb2⟩
    have H2 := Lib.hid h2
    have HB2 := Lib.hid (HB1.out.trans (hb2.mono HB1.out.size))
    have HL2 := Lib.hid hb2
    clear h2 hb2
    refine hK.out _ _ (six_keep hS0 HB2.out (by omega) (by omega)) ?_
    clear hK K hS
    have hS := six_keep hS0 HB2.out (by omega) (by omega)
    try simp only [zA, zB, zC, Act.put, zD, zE, zF]
    have H12 := Lib.hid (H1.out.to HL2.out (Nat.le_refl _) HL2.out.size)
    refine HT.one (i := 12) (o := _) rfl (by kernel_rfl) (by decide) (by rfl) ?_
    intro K hK
    go_simp
    refine (IADD_any ng1 ng2 A1 A2 n1 c1 n2 c2 (q.num * r.den) (r.num * q.den) (by omega) (by omega) _ w2.heap.size (Nat.le_refl _) H12 H2).mono ?_
    rintro e w3 ⟨ng3, A3, n3, c3, rfl, h3, k3, hb3⟩
    have H3 := Lib.hid h3
    have HB3 := Lib.hid (HB2.out.trans (hb3.mono HB2.out.size))
    have HL3 := Lib.hid hb3
    clear h3 hb3
    refine hK.out _ _ (six_keep hS0 HB3.out (by omega) (by omega)) ?_
    clear hK K hS
    have hS := six_keep hS0 HB3.out (by omega) (by omega)
    try simp only [zA, zB, zC, Act.put, zD, zE, zF]
    refine HT.one (i := 17) (o := _) rfl (by kernel_rfl) (by decide) (by rfl) ?_
    intro K hK
    go_simp
    refine (NMUL_any D D' m d _ m' d' _ (by omega) (by omega) _ W.heap.size (by exact HB3.out.size) (by exact Lib.hid (HRW.out.2.below HB3.out (Nat.le_refl _))) (by exact Lib.hid (HRW'.out.2.below HB3.out (Nat.le_refl _)))).mono ?_
    rintro e w4 ⟨A4, n4, c4, rfl, h4, k4, hb4⟩
    have H4 := Lib.hid h4
    have HB4 := Lib.hid (HB3.out.trans (hb4.mono HB3.out.size))
    have HL4 := Lib.hid hb4
    clear h4 hb4
    refine hK.out _ _ (six_keep hS0 HB4.out (by omega) (by omega)) ?_
    clear hK K hS
    have hS := six_keep hS0 HB4.out (by omega) (by omega)
    try simp only [zA, zB, zC, Act.put, zD, zE, zF]
    refine HT.one (i := 18) (o := _) rfl (by kernel_rfl) (by decide) (by rfl) ?_
    intro K hK
    go_simp
    refine (QOVER_any ng3 A3 A4 n3 c3 n4 c4 (q.den * r.den) (q.num * r.den + r.num * q.den) (by omega) (by omega) (Nat.mul_pos q.den_pos r.den_pos) _ w4.heap.size (Nat.le_refl _) (Lib.hid (H3.out.to HL4.out (Nat.le_refl _) HL4.out.size)) H4).mono ?_
    rintro e w5 ⟨ng6, A6, n6, c6, A7, n7, c7, rfl, h5, k6, k7, hb5⟩
    have H5 := Lib.hid h5
    have HB5 := Lib.hid (HB4.out.trans (hb5.mono HB4.out.size))
    have HL5 := Lib.hid hb5
    clear h5 hb5
    refine hK.out _ _ (six_keep hS0 HB5.out (by omega) (by omega)) ?_
    clear hK K hS
    have hS := six_keep hS0 HB5.out (by omega) (by omega)
    try simp only [zA, zB, zC, Act.put, zD, zE, zF]
    have hhx := (HB5.out.block (gx + 1 + 1) hgw).trans HHR.out
    obtain ⟨hr0, hr1, hr2, hf0, hf1, hf2⟩ := three_cells hhx
    have HHX := Lib.hid hhx
    clear hhx
    refine HT.done (by kernel_rfl) ?_
    clear hS
    simp only [List.drop_succ_cons, List.drop_zero]
    go_wp2_with fail
    rw [add_eq q r]
    exact end_rat rfl rfl rfl hr0 hr1 hr2 (outQ_set (q := mkRat (q.num * r.den + r.num * q.den) (q.den * r.den)) H5.out.1.1 (by have := HGX.out; omega) ⟨_, _, HHX.out⟩ H5.out.1.2 H5.out.2 (HBX.out.trans (HB5.out.mono HBX0.out)) (by omega) (by omega))
end Go.Proofs.YtkmcohnhanphdaaGreatDoor
