/- num.Int.Sub, num.Rat.Sub. -/
import Derived.Test.YtkmcohnhanphdaaGreatDoorNqd
import Derived.Test.YtkmcohnhanphdaaGreatDoorZa
import Derived.Test.YtkmcohnhanphdaaGreatDoorYo
set_option linter.unusedSimpArgs false
set_option linter.unusedVariables false
namespace Go.Proofs.YtkmcohnhanphdaaGreatDoor
open Go.RowKit Go.Dw
theorem ratAt_neg {w : World} {B n c m d : Nat} {neg : Bool} {A D : Option Addr} {r : Rat} (h : IntAt w B neg A n c (-r.num)) (h2 : NumAt .u32 164 4294967296 w B D m d r.den) : RatAt w B neg A n c D m d (-r) :=
  ⟨by rw [Rat.neg_num]; exact h, by rw [Rat.neg_den]; exact h2⟩
set_option maxRecDepth 100000 in
set_option maxHeartbeats 2000000 in
theorem ISUB_any (neg neg' : Bool) (A A' : Option Addr) (n c n' c' : Nat) (z z' : Int) (hn : n ≤ 100000000) (hn' : n' ≤ 100000000) (w : World) (B : Nat) (hB : B ≤ w.heap.size) (hh : Hid (IntAt w B neg A n c z)) (hh' : Hid (IntAt w B neg' A' n' c' z')) :
    Calls Tryz.prog 68 #[.agg #[.bool neg, .slice A n c], .agg #[.bool neg', .slice A' n' c']] w (OutI w (z - z') (max n n' + 1)) := by
  obtain ⟨W, gx, hW, hgx, HHW, HBX, HSW⟩ := boxes3 w (.cells #[.bool neg, .slice A n c] 82) (.cells #[.bool neg', .slice A' n' c'] 82) (.cells #[.bool false, .slice none 0 0] 82)
  have HGX := Lib.hid hgx
  obtain ⟨x0, x1, _, _⟩ := two_cells HHW.out.1
  obtain ⟨y0, y1, _, _⟩ := two_cells HHW.out.2.1
  have HHR := Lib.hid HHW.out.2.2
  have hga := blk_lt HHW.out.1
  have hgb := blk_lt HHW.out.2.1
  have HRW := Lib.hid (hh.out.to HBX.out hB (by have := HSW.out; omega))
  have HRW2 := Lib.hid (hh'.out.to HBX.out hB (by have := HSW.out; omega))
  go_enter Tryz.func68, Tryz.ntmps68
  go_upto_region 1 with (fail)
  rw [← hW, ← hgx]
  clear hW hgx hh hh' HHW
  refine wp_region_text 4 (fun x9 => x9.cell? ⟨gx, 0, none⟩ = some (.bool neg) ∧ x9.cell? ⟨gx, 1, none⟩ = some (.slice A n c) ∧ x9.cell? ⟨gx + 1, 0, none⟩ = some (.bool neg') ∧ x9.cell? ⟨gx + 1, 1, none⟩ = some (.slice A' n' c')) (by kernel_rfl) (by kernel_rfl) ?_
  obtain ⟨wc, hwc⟩ : ∃ x : World, x = W.drew := ⟨_, rfl⟩
  have hbn : Below W.heap.size W W.drew := (Below.refl _ _).drew
  have HRW := Lib.hid (HRW.out.to hbn (Nat.le_refl _) hbn.size)
  have HRW2 := Lib.hid (HRW2.out.to hbn (Nat.le_refl _) hbn.size)
  clear hbn
  have HBc : Hid (Below W.heap.size W wc) := by show Below _ _ _; rw [hwc]; exact (Below.refl _ _).drew
  have hS : wc.cell? ⟨gx, 0, none⟩ = some (.bool neg) ∧ wc.cell? ⟨gx, 1, none⟩ = some (.slice A n c) ∧ wc.cell? ⟨gx + 1, 0, none⟩ = some (.bool neg') ∧ wc.cell? ⟨gx + 1, 1, none⟩ = some (.slice A' n' c') := by rw [hwc]; exact ⟨x0, x1, y0, y1⟩
  have hg_0 : gx < wc.heap.size := by rw [hwc]; exact hga
  have hg_1 : gx + 1 < wc.heap.size := by rw [hwc]; exact hgb
  rw [← hwc] at HRW HRW2
  rw [← hwc]
  clear hwc
  refine HT.load (i := 0) (oi := _) (v := ?_) rfl (by kernel_rfl) (by kernel_rfl) (by decide) (fun _ _ _ h => h) (by kernel_rfl) (Or.inl ⟨by rfl, ?_⟩) hS ?_
  rotate_left
  · intro wz hwz
    try dsimp only at hwz
    go_simp
    try with_reducible rfl
  simp only [zA, zB, zC, Act.put, zD, zE, zF]
  refine HT.load (i := 1) (oi := _) (v := ?_) rfl (by kernel_rfl) (by kernel_rfl) (by decide) (fun _ _ _ h => h) (by kernel_rfl) (Or.inl ⟨by rfl, ?_⟩) hS ?_
  rotate_left
  · intro wz hwz
    try dsimp only at hwz
    go_simp
    try with_reducible rfl
  simp only [zA, zB, zC, Act.put, zD, zE, zF]
  refine HT.one (i := 2) (o := _) rfl (by kernel_rfl) (by decide) (by rfl) ?_
  intro K hK
  go_simp
  refine (IMINUS_any neg' A' n' c' z' _ wc.heap.size (Nat.le_refl _) HRW2).mono ?_
  rintro e wn ⟨ng1, A1, n1, c1, rfl, hH1, k1, hbn⟩
  have H1 := Lib.hid hH1
  clear hH1
  clear HRW2
  replace HRW := Lib.hid (HRW.out.to hbn (Nat.le_refl _) hbn.size)
  have HBn := Lib.hid (HBc.out.trans (hbn.mono HBc.out.size))
  have hSn : wn.cell? ⟨gx, 0, none⟩ = some (.bool neg) ∧ wn.cell? ⟨gx, 1, none⟩ = some (.slice A n c) ∧ wn.cell? ⟨gx + 1, 0, none⟩ = some (.bool neg') ∧ wn.cell? ⟨gx + 1, 1, none⟩ = some (.slice A' n' c') := ⟨(hbn.cell (p := ⟨gx, 0, none⟩) hg_0).trans hS.1, (hbn.cell (p := ⟨gx, 1, none⟩) hg_0).trans hS.2.1, (hbn.cell (p := ⟨gx + 1, 0, none⟩) hg_1).trans hS.2.2.1, (hbn.cell (p := ⟨gx + 1, 1, none⟩) hg_1).trans hS.2.2.2⟩
  have hgn_0 := Nat.lt_of_lt_of_le hg_0 hbn.size
  have hgn_1 := Nat.lt_of_lt_of_le hg_1 hbn.size
  refine hK.out _ _ hSn ?_
  clear hK K hS HBc hg_0 hg_1
  try simp only [zA, zB, zC, Act.put, zD, zE, zF]
  have hS := hSn
  have HBc := HBn
  have hg_0 := hgn_0
  have hg_1 := hgn_1
  clear hSn HBn hbn hgn_0 hgn_1
  obtain ⟨wc, rfl⟩ : ∃ x : World, x = wn := ⟨_, rfl⟩
  refine HT.one (i := 3) (o := _) rfl (by kernel_rfl) (by decide) (by rfl) ?_
  intro K hK
  go_simp
  refine (IADD_any neg ng1 A A1 n c n1 c1 z (-z') (by omega) (by omega) _ wc.heap.size (Nat.le_refl _) HRW H1).mono ?_
  rintro e wn ⟨ng2, A2, n2, c2, rfl, hH2, k2, hbn⟩
  have H2 := Lib.hid hH2
  clear hH2
  clear HRW H1
  have HBn := Lib.hid (HBc.out.trans (hbn.mono HBc.out.size))
  have hSn : wn.cell? ⟨gx, 0, none⟩ = some (.bool neg) ∧ wn.cell? ⟨gx, 1, none⟩ = some (.slice A n c) ∧ wn.cell? ⟨gx + 1, 0, none⟩ = some (.bool neg') ∧ wn.cell? ⟨gx + 1, 1, none⟩ = some (.slice A' n' c') := ⟨(hbn.cell (p := ⟨gx, 0, none⟩) hg_0).trans hS.1, (hbn.cell (p := ⟨gx, 1, none⟩) hg_0).trans hS.2.1, (hbn.cell (p := ⟨gx + 1, 0, none⟩) hg_1).trans hS.2.2.1, (hbn.cell (p := ⟨gx + 1, 1, none⟩) hg_1).trans hS.2.2.2⟩
  have hgn_0 := Nat.lt_of_lt_of_le hg_0 hbn.size
  have hgn_1 := Nat.lt_of_lt_of_le hg_1 hbn.size
  refine hK.out _ _ hSn ?_
  clear hK K hS HBc hg_0 hg_1
  try simp only [zA, zB, zC, Act.put, zD, zE, zF]
  have hS := hSn
  have HBc := HBn
  have hg_0 := hgn_0
  have hg_1 := hgn_1
  clear hSn HBn hbn hgn_0 hgn_1
  obtain ⟨wc, rfl⟩ : ∃ x : World, x = wn := ⟨_, rfl⟩
  have hhx := (HBc.out.block (gx + 1 + 1) (blk_lt HHR.out)).trans HHR.out
  obtain ⟨hr0, hr1, hf0, hf1⟩ := two_cells hhx
  have HHX := Lib.hid hhx
  clear hhx
  refine HT.done (by kernel_rfl) ?_
  clear hS
  simp only [List.drop_succ_cons, List.drop_zero]
  go_wp2_with fail
  exact end_intn rfl rfl rfl hr0 hr1 (outI_set (z := z - z') (by rw [Int.sub_eq_add_neg]; exact H2.out.1) (by have := HGX.out; omega) ⟨_, _, HHX.out⟩ (by rw [Int.sub_eq_add_neg]; exact H2.out.2) (HBX.out.trans (HBc.out.mono HBX.out.size)) (by omega))
  -- H2
set_option maxRecDepth 100000 in
set_option maxHeartbeats 4000000 in
theorem QSUB_any (neg neg' : Bool) (A A' D D' : Option Addr) (n c m d n' c' m' d' : Nat) (q r : Rat) (hn : n ≤ 1000000) (hm : m ≤ 1000000) (hn' : n' ≤ 1000000) (hm' : m' ≤ 1000000) (w : World) (B : Nat) (hB : B ≤ w.heap.size) (hh : Hid (RatAt w B neg A n c D m d q)) (hh' : Hid (RatAt w B neg' A' n' c' D' m' d' r)) :
    Calls Tryz.prog 113 #[.agg #[.bool neg, .slice A n c, .slice D m d], .agg #[.bool neg', .slice A' n' c', .slice D' m' d']] w (OutQ w (q - r) (max (n + m') (n' + m) + 1) (m + m')) := by
  obtain ⟨W, gx, hW, hgx, HHW, HBX, HSW⟩ := boxes3 w (.cells #[.bool neg, .slice A n c, .slice D m d] 88) (.cells #[.bool neg', .slice A' n' c', .slice D' m' d'] 88) (.cells #[.bool false, .slice none 0 0, .slice none 0 0] 88)
  have HGX := Lib.hid hgx
  obtain ⟨x0, x1, x2, _, _, _⟩ := three_cells HHW.out.1
  obtain ⟨y0, y1, y2, _, _, _⟩ := three_cells HHW.out.2.1
  have HHR := Lib.hid HHW.out.2.2
  have hgw := blk_lt HHW.out.2.2
  have HRW := Lib.hid (hh.out.to HBX.out hB (by have := HSW.out; omega))
  have HRW' := Lib.hid (hh'.out.to HBX.out hB (by have := HSW.out; omega))
  have HBX0 := Lib.hid (HBX.out.size)
  have hga : gx < W.heap.size := blk_lt HHW.out.1
  have hgb : gx + 1 < W.heap.size := blk_lt HHW.out.2.1
  have HRN : Hid (IntAt W W.heap.size neg' A' n' c' r.num) := HRW'.out.1
  have HRD : Hid (NumAt .u32 164 4294967296 W W.heap.size D' m' d' r.den) := HRW'.out.2
  go_enter Tryz.func113, Tryz.ntmps113
  go_upto_region 1 with (fail)
  rw [← hW, ← hgx]
  clear hW hgx hh hh' HHW HRW'
  refine wp_region_text 8 (fun x9 => x9.cell? ⟨gx, 0, none⟩ = some (.bool neg) ∧ x9.cell? ⟨gx, 1, none⟩ = some (.slice A n c) ∧ x9.cell? ⟨gx, 2, none⟩ = some (.slice D m d) ∧ x9.cell? ⟨gx + 1, 0, none⟩ = some (.bool neg') ∧ x9.cell? ⟨gx + 1, 1, none⟩ = some (.slice A' n' c') ∧ x9.cell? ⟨gx + 1, 2, none⟩ = some (.slice D' m' d')) (by kernel_rfl) (by kernel_rfl) ?_
  obtain ⟨wc, hwc⟩ : ∃ x : World, x = W.drew := ⟨_, rfl⟩
  have hbn : Below W.heap.size W W.drew := (Below.refl _ _).drew
  have HRW := Lib.hid (HRW.out.to hbn (Nat.le_refl _) hbn.size)
  have HRN := Lib.hid (HRN.out.to hbn (Nat.le_refl _) hbn.size)
  have HRD := Lib.hid (HRD.out.to hbn (Nat.le_refl _) hbn.size)
  clear hbn
  have HBc : Hid (Below W.heap.size W wc) := by show Below _ _ _; rw [hwc]; exact (Below.refl _ _).drew
  have hS : wc.cell? ⟨gx, 0, none⟩ = some (.bool neg) ∧ wc.cell? ⟨gx, 1, none⟩ = some (.slice A n c) ∧ wc.cell? ⟨gx, 2, none⟩ = some (.slice D m d) ∧ wc.cell? ⟨gx + 1, 0, none⟩ = some (.bool neg') ∧ wc.cell? ⟨gx + 1, 1, none⟩ = some (.slice A' n' c') ∧ wc.cell? ⟨gx + 1, 2, none⟩ = some (.slice D' m' d') := by rw [hwc]; exact ⟨x0, x1, x2, y0, y1, y2⟩
  have hg_0 : gx < wc.heap.size := by rw [hwc]; exact hga
  have hg_1 : gx + 1 < wc.heap.size := by rw [hwc]; exact hgb
  rw [← hwc] at HRW HRN HRD
  rw [← hwc]
  clear hwc
  refine HT.load (i := 0) (oi := _) (v := ?_) rfl (by kernel_rfl) (by kernel_rfl) (by decide) (fun _ _ _ h => h) (by kernel_rfl) (Or.inl ⟨by rfl, ?_⟩) hS ?_
  rotate_left
  · intro wz hwz
    try dsimp only at hwz
    go_simp
    try with_reducible rfl
  simp only [zA, zB, zC, Act.put, zD, zE, zF]
  refine HT.take (i := 1) (oi := _) (v := ?_) rfl (by kernel_rfl) (by kernel_rfl) (by decide) (fun _ _ _ h => h) (Or.inl ⟨by rfl, ?_⟩) hS ?_
  rotate_left
  · intro wz
    go_simp
    try with_reducible rfl
  simp only [zA, zB, zC, Act.put, zD, zE, zF]
  refine HT.load (i := 2) (oi := _) (v := ?_) rfl (by kernel_rfl) (by kernel_rfl) (by decide) (fun _ _ _ h => h) (by kernel_rfl) (Or.inl ⟨by rfl, ?_⟩) hS ?_
  rotate_left
  · intro wz hwz
    try dsimp only at hwz
    go_simp
    try with_reducible rfl
  simp only [zA, zB, zC, Act.put, zD, zE, zF]
  refine HT.take (i := 4) (oi := _) (v := ?_) rfl (by kernel_rfl) (by kernel_rfl) (by decide) (fun _ _ _ h => h) (Or.inl ⟨by rfl, ?_⟩) hS ?_
  rotate_left
  · intro wz
    go_simp
    try with_reducible rfl
  simp only [zA, zB, zC, Act.put, zD, zE, zF]
  refine HT.load (i := 5) (oi := _) (v := ?_) rfl (by kernel_rfl) (by kernel_rfl) (by decide) (fun _ _ _ h => h) (by kernel_rfl) (Or.inl ⟨by rfl, ?_⟩) hS ?_
  rotate_left
  · intro wz hwz
    try dsimp only at hwz
    go_simp
    try with_reducible rfl
  simp only [zA, zB, zC, Act.put, zD, zE, zF]
  refine HT.one (i := 3) (o := _) rfl (by kernel_rfl) (by decide) (by rfl) ?_
  intro K hK
  go_simp
  refine (IMINUS_any neg' A' n' c' r.num _ wc.heap.size (Nat.le_refl _) HRN).mono ?_
  rintro e wn ⟨ng1, A1, n1, c1, rfl, hH1, k1, hbn⟩
  have H1 := Lib.hid hH1
  clear hH1
  clear HRN
  replace HRW := Lib.hid (HRW.out.to hbn (Nat.le_refl _) hbn.size)
  replace HRD := Lib.hid (HRD.out.to hbn (Nat.le_refl _) hbn.size)
  have HBn := Lib.hid (HBc.out.trans (hbn.mono HBc.out.size))
  have hSn : wn.cell? ⟨gx, 0, none⟩ = some (.bool neg) ∧ wn.cell? ⟨gx, 1, none⟩ = some (.slice A n c) ∧ wn.cell? ⟨gx, 2, none⟩ = some (.slice D m d) ∧ wn.cell? ⟨gx + 1, 0, none⟩ = some (.bool neg') ∧ wn.cell? ⟨gx + 1, 1, none⟩ = some (.slice A' n' c') ∧ wn.cell? ⟨gx + 1, 2, none⟩ = some (.slice D' m' d') := ⟨(hbn.cell (p := ⟨gx, 0, none⟩) hg_0).trans hS.1, (hbn.cell (p := ⟨gx, 1, none⟩) hg_0).trans hS.2.1, (hbn.cell (p := ⟨gx, 2, none⟩) hg_0).trans hS.2.2.1, (hbn.cell (p := ⟨gx + 1, 0, none⟩) hg_1).trans hS.2.2.2.1, (hbn.cell (p := ⟨gx + 1, 1, none⟩) hg_1).trans hS.2.2.2.2.1, (hbn.cell (p := ⟨gx + 1, 2, none⟩) hg_1).trans hS.2.2.2.2.2⟩
  have hgn_0 := Nat.lt_of_lt_of_le hg_0 hbn.size
  have hgn_1 := Nat.lt_of_lt_of_le hg_1 hbn.size
  refine hK.out _ _ hSn ?_
  clear hK K hS HBc hg_0 hg_1
  try simp only [zA, zB, zC, Act.put, zD, zE, zF]
  have hS := hSn
  have HBc := HBn
  have hg_0 := hgn_0
  have hg_1 := hgn_1
  clear hSn HBn hbn hgn_0 hgn_1
  obtain ⟨wc, rfl⟩ : ∃ x : World, x = wn := ⟨_, rfl⟩
  refine HT.take (i := 6) (oi := _) (v := ?_) rfl (by kernel_rfl) (by kernel_rfl) (by decide) (fun _ _ _ h => h) (Or.inl ⟨by rfl, ?_⟩) hS ?_
  rotate_left
  · intro wz
    go_simp
    try with_reducible rfl
  simp only [zA, zB, zC, Act.put, zD, zE, zF]
  refine HT.one (i := 7) (o := _) rfl (by kernel_rfl) (by decide) (by rfl) ?_
  intro K hK
  go_simp
  have HR1 := Lib.hid (ratAt_neg H1.out HRD.out)
  refine (QADD_any neg ng1 A A1 D D' n c m d n1 c1 m' d' q (-r) (by omega) (by omega) (by omega) (by omega) _ wc.heap.size (Nat.le_refl _) HRW HR1).mono ?_
  rintro e wn ⟨ng2, A2, n2, c2, D2, m2, d2, rfl, hH2, k2, l2, hbn⟩
  have H2 := Lib.hid hH2
  clear hH2
  clear HRW HRD H1
  have HBn := Lib.hid (HBc.out.trans (hbn.mono HBc.out.size))
  have hSn : wn.cell? ⟨gx, 0, none⟩ = some (.bool neg) ∧ wn.cell? ⟨gx, 1, none⟩ = some (.slice A n c) ∧ wn.cell? ⟨gx, 2, none⟩ = some (.slice D m d) ∧ wn.cell? ⟨gx + 1, 0, none⟩ = some (.bool neg') ∧ wn.cell? ⟨gx + 1, 1, none⟩ = some (.slice A' n' c') ∧ wn.cell? ⟨gx + 1, 2, none⟩ = some (.slice D' m' d') := ⟨(hbn.cell (p := ⟨gx, 0, none⟩) hg_0).trans hS.1, (hbn.cell (p := ⟨gx, 1, none⟩) hg_0).trans hS.2.1, (hbn.cell (p := ⟨gx, 2, none⟩) hg_0).trans hS.2.2.1, (hbn.cell (p := ⟨gx + 1, 0, none⟩) hg_1).trans hS.2.2.2.1, (hbn.cell (p := ⟨gx + 1, 1, none⟩) hg_1).trans hS.2.2.2.2.1, (hbn.cell (p := ⟨gx + 1, 2, none⟩) hg_1).trans hS.2.2.2.2.2⟩
  have hgn_0 := Nat.lt_of_lt_of_le hg_0 hbn.size
  have hgn_1 := Nat.lt_of_lt_of_le hg_1 hbn.size
  refine hK.out _ _ hSn ?_
  clear hK K hS HBc hg_0 hg_1
  try simp only [zA, zB, zC, Act.put, zD, zE, zF]
  have hS := hSn
  have HBc := HBn
  have hg_0 := hgn_0
  have hg_1 := hgn_1
  clear hSn HBn hbn hgn_0 hgn_1
  obtain ⟨wc, rfl⟩ : ∃ x : World, x = wn := ⟨_, rfl⟩
  have hhx := (HBc.out.block (gx + 1 + 1) (blk_lt HHR.out)).trans HHR.out
  obtain ⟨hr0, hr1, hr2, hf0, hf1, hf2⟩ := three_cells hhx
  have HHX := Lib.hid hhx
  clear hhx
  refine HT.done (by kernel_rfl) ?_
  clear hS
  simp only [List.drop_succ_cons, List.drop_zero]
  go_wp2_with fail
  exact end_rat rfl rfl rfl hr0 hr1 hr2 (outQ_set (q := q - r) (by rw [Rat.sub_eq_add_neg]; exact H2.out.1.1) (by have := HGX.out; omega) ⟨_, _, HHX.out⟩ (by rw [Rat.sub_eq_add_neg]; exact H2.out.1.2) (by rw [Rat.sub_eq_add_neg]; exact H2.out.2) (HBX.out.trans (HBc.out.mono HBX.out.size)) (by omega) (by omega))
  -- H2
end Go.Proofs.YtkmcohnhanphdaaGreatDoor
/- Numbers and what is stored into a box beside them. -/
namespace Go.Proofs.YtkmcohnhanphdaaGreatDoor
open Go.RowKit Go.Dw
theorem box3_heap {w : World} {g : Nat} {o0 o1 o2 v0 v1 v2 : Value} {T : TypeId} (h : w.heap[g]? = some (.cells #[o0, o1, o2] T (0, 0))) : (((w.setCell ⟨g, 0, none⟩ v0).setCell ⟨g, 1, none⟩ v1).setCell ⟨g, 2, none⟩ v2).heap[g]? = some (.cells #[v0, v1, v2] T (0, 0)) := by
  simp only [World.setCell, Array.getElem?_modify, h]
  simp
theorem box2_heap {w : World} {g : Nat} {o0 o1 v0 v1 : Value} {T : TypeId} (h : w.heap[g]? = some (.cells #[o0, o1] T (0, 0))) : ((w.setCell ⟨g, 0, none⟩ v0).setCell ⟨g, 1, none⟩ v1).heap[g]? = some (.cells #[v0, v1] T (0, 0)) := by
  simp only [World.setCell, Array.getElem?_modify, h]
  simp
theorem box_far {w : World} {g p : Nat} {o : Obj} (h : w.heap[g]? = some o) (hne : g ≠ p) (j : Nat) (v : Value) : (w.setCell ⟨p, j, none⟩ v).heap[g]? = some o := by
  simp only [World.setCell, Array.getElem?_modify]
  rw [if_neg (by omega)]
  exact h
section
variable {k : IntKind} {T T' : TypeId} {b B n c x g : Nat} {w : World} {A : Option Addr}
theorem numAt_box3 (h : NumAt k T b w B A n c x) (ht : TyAt T' w g) (hne : T ≠ T') (v0 v1 v2 : Value) : NumAt k T b (((w.setCell ⟨g, 0, none⟩ v0).setCell ⟨g, 1, none⟩ v1).setCell ⟨g, 2, none⟩ v2) B A n c x :=
  ((h.set_far (p := ⟨g, 0, none⟩) ht hne _).set_far (p := ⟨g, 1, none⟩) (ht.set _ _) hne _).set_far (p := ⟨g, 2, none⟩) ((ht.set _ _).set _ _) hne _
theorem numAt_box2 (h : NumAt k T b w B A n c x) (ht : TyAt T' w g) (hne : T ≠ T') (v0 v1 : Value) : NumAt k T b ((w.setCell ⟨g, 0, none⟩ v0).setCell ⟨g, 1, none⟩ v1) B A n c x :=
  (h.set_far (p := ⟨g, 0, none⟩) ht hne _).set_far (p := ⟨g, 1, none⟩) (ht.set _ _) hne _
end
section
variable {w : World} {g n c m d : Nat} {A D : Option Addr} {neg : Bool} {q : Rat} {z : Int} {T' : TypeId}
theorem RatAt.box3 (h : RatAt w w.heap.size neg A n c D m d q) (ht : TyAt T' w g) (hne : 164 ≠ T') (v0 v1 v2 : Value) :
    RatAt (((w.setCell ⟨g, 0, none⟩ v0).setCell ⟨g, 1, none⟩ v1).setCell ⟨g, 2, none⟩ v2) (((w.setCell ⟨g, 0, none⟩ v0).setCell ⟨g, 1, none⟩ v1).setCell ⟨g, 2, none⟩ v2).heap.size neg A n c D m d q :=
  ⟨⟨h.1.1, (numAt_box3 h.1.2 ht hne _ _ _).mono (by simp)⟩, (numAt_box3 h.2 ht hne _ _ _).mono (by simp)⟩
theorem IntAt.box2 (h : IntAt w w.heap.size neg A n c z) (ht : TyAt T' w g) (hne : 164 ≠ T') (v0 v1 : Value) :
    IntAt ((w.setCell ⟨g, 0, none⟩ v0).setCell ⟨g, 1, none⟩ v1) ((w.setCell ⟨g, 0, none⟩ v0).setCell ⟨g, 1, none⟩ v1).heap.size neg A n c z :=
  ⟨h.1, (numAt_box2 h.2 ht hne _ _).mono (by simp)⟩
end
theorem box2_below {w w' : World} {B g : Nat} {v0 v1 : Value} (h : Below B w w') (hg : B ≤ g) : Below B w ((w'.setCell ⟨g, 0, none⟩ v0).setCell ⟨g, 1, none⟩ v1) :=
  (h.setCell (p := ⟨g, 0, none⟩) hg v0).setCell (p := ⟨g, 1, none⟩) hg v1
theorem box3_below {w w' : World} {B g : Nat} {v0 v1 v2 : Value} (h : Below B w w') (hg : B ≤ g) : Below B w (((w'.setCell ⟨g, 0, none⟩ v0).setCell ⟨g, 1, none⟩ v1).setCell ⟨g, 2, none⟩ v2) :=
  (box2_below h hg).setCell (p := ⟨g, 2, none⟩) hg v2
end Go.Proofs.YtkmcohnhanphdaaGreatDoor
