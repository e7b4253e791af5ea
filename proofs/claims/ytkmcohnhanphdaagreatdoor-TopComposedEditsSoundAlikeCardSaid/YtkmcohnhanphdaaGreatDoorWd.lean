/- Clip, at (the document's); the clipper's at (the sound's). -/
import Derived.Test.YtkmcohnhanphdaaGreatDoorWb
import Derived.Test.YtkmcohnhanphdaaGreatDoorWa
import Derived.OneCell
import Derived.Test.YtkmcohnhanphdaaGreatDoorYi
import Derived.Test.YtkmcohnhanphdaaGreatDoorYj
import Derived.Test.YtkmcohnhanphdaaGreatDoorWc
set_option linter.unusedSimpArgs false
set_option linter.unusedVariables false
namespace Go.Proofs.YtkmcohnhanphdaaGreatDoor
open Go.RowKit Go.Dw
end Go.Proofs.YtkmcohnhanphdaaGreatDoor
/- The clipper's at. -/
namespace Go.Proofs.YtkmcohnhanphdaaGreatDoor
open Go.RowKit Go.Dw
end Go.Proofs.YtkmcohnhanphdaaGreatDoor
/- num.Rat.Near and Sign of a ratio that is not in lowest terms. -/
namespace Go.Proofs.YtkmcohnhanphdaaGreatDoor
open Go.RowKit Go.Dw
def nearR (z : Int) (y : Nat) : Int := if z < 0 then -(((z.natAbs * 2 + y) / (y * 2) : Nat) : Int) else (((z.natAbs * 2 + y) / (y * 2) : Nat) : Int)
theorem RawAt.to {w w' : World} {B B' : Nat} {neg : Bool} {A A' : Option Addr} {n c n' c' x : Nat} {z : Int} (h : RawAt w B neg A n c A' n' c' z x) (hb : Below B' w w') (hB : B ≤ B') (hC : B ≤ w'.heap.size) : RawAt w' w'.heap.size neg A n c A' n' c' z x := ⟨h.1.to hb hB hC, h.2.to hb hB hC⟩
theorem RawAt.below {w w' : World} {B B' : Nat} {neg : Bool} {A A' : Option Addr} {n c n' c' x : Nat} {z : Int} (h : RawAt w B neg A n c A' n' c' z x) (hb : Below B' w w') (hB : B ≤ B') : RawAt w' B neg A n c A' n' c' z x := ⟨h.1.below hb hB, h.2.below hb hB⟩
set_option maxRecDepth 100000 in
set_option maxHeartbeats 4000000 in
theorem QNEAR_raw (neg : Bool) (A D : Option Addr) (n c m d : Nat) (z : Int) (y : Nat) (hy : 0 < y) (hn : n ≤ 10000000) (hm : m ≤ 10000000) (w : World) (B : Nat) (hB : B ≤ w.heap.size) (hh : Hid (RawAt w B neg A n c D m d z y)) :
    Calls Tryz.prog 74 #[.agg #[.bool neg, .slice A n c, .slice D m d]] w (OutI w (nearR z y) (max (n + 1) m + 1)) := by
  obtain ⟨W0, gx, hW, hgx, HHW, HBW, HSW⟩ := boxes2 w (.cells #[.bool neg, .slice A n c, .slice D m d] 88) (.cells #[.bool false, .slice none 0 0] 82)
  have HGX := Lib.hid hgx
  have HNEG := Lib.hid hh.out.1.1
  have HHR := Lib.hid HHW.out.2
  go_enter Tryz.func74, Tryz.ntmps74
  go_upto_region 1 with (fail)
  rw [← hW, ← hgx]
  have hg0 := blk_lt HHW.out.1
  have hg1 := blk_lt HHW.out.2
  clear hW hgx
  go_upto_region 2 with (fail)
  obtain ⟨W, g2, hW2, hg2, HH2, HB2, HS2⟩ := cell_new W0 164 #[.int .u32 2]
  rw [← hW2, ← hg2]
  have hhx := (HB2.out.block gx hg0).trans HHW.out.1
  obtain ⟨x0, x1, x2, _, _, _⟩ := three_cells hhx
  have HHR2 := Lib.hid ((HB2.out.block (gx + 1) hg1).trans HHW.out.2)
  have hgw := blk_lt HHR2.out
  have HTWO : Hid (NumAt .u32 164 4294967296 W W.heap.size (some ⟨g2, 0, none⟩) 1 1 2) := by
    show NumAt _ _ _ _ _ _ _ _ _
    rw [hW2, hg2]
    exact (NTWO_at W0).mono (by simp)
  have HBA := Lib.hid (HBW.out.trans (HB2.out.mono HBW.out.size))
  have HRW := Lib.hid (hh.out.to HBA.out hB (Nat.le_trans hB HBA.out.size))
  have HSZ := Lib.hid HBA.out.size
  clear hW2 hg2 HHW hhx hg0 hg1
  obtain ⟨W, rfl⟩ : ∃ Wx : World, Wx = W := ⟨_, rfl⟩
  refine wp_region_text 18 (fun x => x.cell? ⟨gx, 0, none⟩ = some (.bool neg) ∧ x.cell? ⟨gx, 1, none⟩ = some (.slice A n c) ∧ x.cell? ⟨gx, 2, none⟩ = some (.slice D m d)) (by kernel_rfl) (by kernel_rfl) ?_
  have hS : W.drew.cell? ⟨gx, 0, none⟩ = some (.bool neg) ∧ W.drew.cell? ⟨gx, 1, none⟩ = some (.slice A n c) ∧ W.drew.cell? ⟨gx, 2, none⟩ = some (.slice D m d) := ⟨x0, x1, x2⟩
  have hS0 := And.intro x0 (And.intro x1 x2)
  refine HT.take (i := 0) (oi := _) (v := ?_) rfl (by kernel_rfl) (by kernel_rfl) (by decide) (fun _ _ _ h => h) (Or.inl ⟨by rfl, ?_⟩) hS ?_
  rotate_left
  · intro wz
    go_simp
    try with_reducible rfl
  simp only [zA, zB, zC, Act.put, zD, zE, zF]
  refine HT.take (i := 1) (oi := _) (v := ?_) rfl (by kernel_rfl) (by kernel_rfl) (by decide) (fun _ _ _ h => h) (Or.inl ⟨by rfl, ?_⟩) hS ?_
  rotate_left
  · intro wz
    go_simp
    try with_reducible rfl
  simp only [zA, zB, zC, Act.put, zD, zE, zF]
  refine HT.load (i := 2) (oi := _) (v := ?_) rfl (by kernel_rfl) (by kernel_rfl) (by decide) (fun _ _ _ h => h) (by kernel_rfl) (Or.inl ⟨by rfl, ?_⟩) hS ?_
  rotate_left
  · intro wz hwz
    try dsimp only at hwz
    go_simp
    try with_reducible rfl
  simp only [zA, zB, zC, Act.put, zD, zE, zF]
  refine HT.take (i := 3) (oi := _) (v := ?_) rfl (by kernel_rfl) (by kernel_rfl) (by decide) (fun _ _ _ h => h) (Or.inl ⟨by rfl, ?_⟩) hS ?_
  rotate_left
  · intro wz
    go_simp
    try with_reducible rfl
  simp only [zA, zB, zC, Act.put, zD, zE, zF]
  refine HT.take (i := 5) (oi := _) (v := ?_) rfl (by kernel_rfl) (by kernel_rfl) (by decide) (fun _ _ _ h => h) (Or.inl ⟨by rfl, ?_⟩) hS ?_
  rotate_left
  · intro wz
    go_simp
    try with_reducible rfl
  simp only [zA, zB, zC, Act.put, zD, zE, zF]
  refine HT.load (i := 6) (oi := _) (v := ?_) rfl (by kernel_rfl) (by kernel_rfl) (by decide) (fun _ _ _ h => h) (by kernel_rfl) (Or.inl ⟨by rfl, ?_⟩) hS ?_
  rotate_left
  · intro wz hwz
    try dsimp only at hwz
    go_simp
    try with_reducible rfl
  simp only [zA, zB, zC, Act.put, zD, zE, zF]
  refine HT.take (i := 8) (oi := _) (v := ?_) rfl (by kernel_rfl) (by kernel_rfl) (by decide) (fun _ _ _ h => h) (Or.inl ⟨by rfl, ?_⟩) hS ?_
  rotate_left
  · intro wz
    go_simp
    try with_reducible rfl
  simp only [zA, zB, zC, Act.put, zD, zE, zF]
  refine HT.load (i := 9) (oi := _) (v := ?_) rfl (by kernel_rfl) (by kernel_rfl) (by decide) (fun _ _ _ h => h) (by kernel_rfl) (Or.inl ⟨by rfl, ?_⟩) hS ?_
  rotate_left
  · intro wz hwz
    try dsimp only at hwz
    go_simp
    try with_reducible rfl
  simp only [zA, zB, zC, Act.put, zD, zE, zF]
  refine HT.take (i := 10) (oi := _) (v := ?_) rfl (by kernel_rfl) (by kernel_rfl) (by decide) (fun _ _ _ h => h) (Or.inl ⟨by rfl, ?_⟩) hS ?_
  rotate_left
  · intro wz
    go_simp
    try with_reducible rfl
  simp only [zA, zB, zC, Act.put, zD, zE, zF]
  refine HT.one (i := 4) (o := _) rfl (by kernel_rfl) (by decide) (by rfl) ?_
  intro K hK
  go_simp
  refine (NMUL_any A (some ⟨g2, 0, none⟩) n c _ 1 1 2 (by omega) (by omega) _ W.heap.size (by exact Nat.le_refl _) (by exact Lib.hid HRW.out.1.2) (by exact HTWO)).mono ?_
  rintro e w1 ⟨A1, n1, c1, rfl, h1, k1, hb1⟩
  replace hb1 : Below W.heap.size W w1 := below_undrew hb1
  have H1 := Lib.hid h1
  have HB1 := Lib.hid hb1
  clear h1 hb1
  refine hK.out _ _ (three_keep hS0 HB1.out (by dsimp only; omega) (by dsimp only; omega) (by dsimp only; omega)) ?_
  clear hK K hS
  have hS := three_keep hS0 HB1.out (by dsimp only; omega) (by dsimp only; omega) (by dsimp only; omega)
  try simp only [zA, zB, zC, Act.put, zD, zE, zF]
  refine HT.one (i := 7) (o := _) rfl (by kernel_rfl) (by decide) (by rfl) ?_
  intro K hK
  go_simp
  refine (NADD_any A1 D n1 c1 _ m d y (by omega) (by omega) _ w1.heap.size (Nat.le_refl _) H1 (by exact Lib.hid (HRW.out.2.to HB1.out (Nat.le_refl _) HB1.out.size))).mono ?_
  rintro e w2 ⟨A2, n2, c2, rfl, h2, k2, hb2⟩
  have H2 := Lib.hid h2
  have HB2 := Lib.hid (HB1.out.trans (hb2.mono HB1.out.size))
  have HL2 := Lib.hid hb2
  clear h2 hb2
  refine hK.out _ _ (three_keep hS0 HB2.out (by dsimp only; omega) (by dsimp only; omega) (by dsimp only; omega)) ?_
  clear hK K hS
  have hS := three_keep hS0 HB2.out (by dsimp only; omega) (by dsimp only; omega) (by dsimp only; omega)
  try simp only [zA, zB, zC, Act.put, zD, zE, zF]
  refine HT.one (i := 11) (o := _) rfl (by kernel_rfl) (by decide) (by rfl) ?_
  intro K hK
  go_simp
  refine (NMUL_any D (some ⟨g2, 0, none⟩) m d _ 1 1 2 (by omega) (by omega) _ w2.heap.size (by exact Nat.le_refl _) (by exact Lib.hid (HRW.out.2.to HB2.out (Nat.le_refl _) HB2.out.size)) (by exact Lib.hid (HTWO.out.to HB2.out (Nat.le_refl _) HB2.out.size))).mono ?_
  rintro e w3 ⟨A3, n3, c3, rfl, h3, k3, hb3⟩
  have H3 := Lib.hid h3
  have HB3 := Lib.hid (HB2.out.trans (hb3.mono HB2.out.size))
  have HL3 := Lib.hid hb3
  clear h3 hb3
  refine hK.out _ _ (three_keep hS0 HB3.out (by dsimp only; omega) (by dsimp only; omega) (by dsimp only; omega)) ?_
  clear hK K hS
  have hS := three_keep hS0 HB3.out (by dsimp only; omega) (by dsimp only; omega) (by dsimp only; omega)
  try simp only [zA, zB, zC, Act.put, zD, zE, zF]
  have hdp := hy
  refine HT.one (i := 12) (o := _) rfl (by kernel_rfl) (by decide) (by rfl) ?_
  intro K hK
  go_simp
  refine (NDIV_any A2 A3 n2 c2 _ n3 c3 (y * 2) (by omega) (by omega) _ w3.heap.size (by exact Nat.le_refl _) (by exact Lib.hid (H2.out.to HL3.out (Nat.le_refl _) HL3.out.size)) (by exact H3)).mono ?_
  rintro e w4 ⟨A4, n4, c4, A5, n5, c5, rfl, h4, _, k4, _, hb4⟩
  have H4 := Lib.hid h4
  have HB4 := Lib.hid (HB3.out.trans (hb4.mono HB3.out.size))
  have HL4 := Lib.hid hb4
  clear h4 hb4
  refine hK.out _ _ (three_keep hS0 HB4.out (by dsimp only; omega) (by dsimp only; omega) (by dsimp only; omega)) ?_
  clear hK K hS
  have hS := three_keep hS0 HB4.out (by dsimp only; omega) (by dsimp only; omega) (by dsimp only; omega)
  try simp only [zA, zB, zC, Act.put, zD, zE, zF]
  refine HT.take (i := 13) (oi := _) (v := ?_) rfl (by kernel_rfl) (by kernel_rfl) (by decide) (fun _ _ _ h => h) (Or.inl ⟨by rfl, ?_⟩) hS ?_
  rotate_left
  · intro wz
    go_simp
    try with_reducible rfl
  simp only [zA, zB, zC, Act.put, zD, zE, zF]
  refine HT.take (i := 14) (oi := _) (v := ?_) rfl (by kernel_rfl) (by kernel_rfl) (by decide) (fun _ _ _ h => h) (Or.inl ⟨by rfl, ?_⟩) hS ?_
  rotate_left
  · intro wz
    go_simp
    try with_reducible rfl
  simp only [zA, zB, zC, Act.put, zD, zE, zF]
  refine HT.take (i := 15) (oi := _) (v := ?_) rfl (by kernel_rfl) (by kernel_rfl) (by decide) (fun _ _ _ h => h) (Or.inl ⟨by rfl, ?_⟩) hS ?_
  rotate_left
  · intro wz
    go_simp
    try with_reducible rfl
  simp only [zA, zB, zC, Act.put, zD, zE, zF]
  refine HT.take (i := 16) (oi := _) (v := ?_) rfl (by kernel_rfl) (by kernel_rfl) (by decide) (fun _ _ _ h => h) (Or.inl ⟨by rfl, ?_⟩) hS ?_
  rotate_left
  · intro wz
    go_simp
    try with_reducible rfl
  simp only [zA, zB, zC, Act.put, zD, zE, zF]
  refine HT.take (i := 17) (oi := _) (v := ?_) rfl (by kernel_rfl) (by kernel_rfl) (by decide) (fun _ _ _ h => h) (Or.inl ⟨by rfl, ?_⟩) hS ?_
  rotate_left
  · intro wz
    go_simp
    try with_reducible rfl
  simp only [zA, zB, zC, Act.put, zD, zE, zF]
  obtain ⟨z0, z1, z2⟩ := hS
  have hS := z0
  have hhx := (HB4.out.block (gx + 1) hgw).trans HHR2.out
  obtain ⟨hr0, hr1, hf0, hf1⟩ := two_cells hhx
  have HHX := Lib.hid hhx
  have HPOS := Lib.hid (H4.out.pos_iff (by omega))
  obtain ⟨x, hx⟩ : ∃ x, (z.natAbs * 2 + y) / (y * 2) = x := ⟨_, rfl⟩
  have HX := Lib.hid hx
  rw [hx] at H4 HPOS
  clear hhx hx z1 z2 hdp
  refine HT.done (by kernel_rfl) ?_
  clear hS
  simp only [List.drop_succ_cons, List.drop_zero]
  cases neg with
  | false =>
    have hz : ¬ z < 0 := by have := HNEG.out; simpa using this
    have HNQ : Hid (nearR z y = (x : Int)) := by show _ = _; unfold nearR; rw [if_neg hz, HX.out]
    have HSG : Hid (false = decide (nearR z y < 0)) := by show _ = _; rw [HNQ.out]; exact (decide_eq_false (by omega)).symm
    clear hz
    go_wp2_with fail
    exact end_intn rfl rfl rfl hr0 hr1 (outI_set (z := nearR z y) (neg := false) HSG.out (by have := HGX.out; omega) ⟨_, _, HHX.out⟩ (by rw [HNQ.out]; (try rw [Int.natAbs_neg]); rw [Int.natAbs_natCast]; exact H4.out) (HBA.out.trans (HB4.out.mono HSZ.out)) (by omega))
  | true =>
    have hz : z < 0 := by have := HNEG.out; simpa using this
    have HNQ : Hid (nearR z y = -(x : Int)) := by show _ = _; unfold nearR; rw [if_pos hz, HX.out]
    clear hz
    by_cases hn4 : 0 < n4
    · have hd4 : decide ((0 : Int) < (n4 : Int)) = true := by simp; omega
      have HSG : Hid (true = decide (nearR z y < 0)) := by have := HPOS.out.1 hn4; show _ = _; rw [HNQ.out]; exact (decide_eq_true (by omega)).symm
      go_wp2_with fail
      exact end_intn rfl rfl rfl hr0 hr1 (outI_set (z := nearR z y) (neg := true) HSG.out (by have := HGX.out; omega) ⟨_, _, HHX.out⟩ (by rw [HNQ.out]; (try rw [Int.natAbs_neg]); rw [Int.natAbs_natCast]; exact H4.out) (HBA.out.trans (HB4.out.mono HSZ.out)) (by omega))
    · have hd4 : decide ((0 : Int) < (n4 : Int)) = false := by simp; omega
      have HSG : Hid (false = decide (nearR z y < 0)) := by
        have : ¬ 0 < x := fun h => hn4 (HPOS.out.2 h)
        show _ = _; rw [HNQ.out]; exact (decide_eq_false (by omega)).symm
      go_wp2_with fail
      exact end_intn rfl rfl rfl hr0 hr1 (outI_set (z := nearR z y) (neg := false) HSG.out (by have := HGX.out; omega) ⟨_, _, HHX.out⟩ (by rw [HNQ.out]; (try rw [Int.natAbs_neg]); rw [Int.natAbs_natCast]; exact H4.out) (HBA.out.trans (HB4.out.mono HSZ.out)) (by omega))
set_option maxRecDepth 100000 in
set_option maxHeartbeats 1000000 in
theorem QSIGN_raw (neg : Bool) (A D : Option Addr) (n c m d : Nat) (z : Int) (y : Nat) (w : World) (B : Nat) (hB : B ≤ w.heap.size) (hh : Hid (RawAt w B neg A n c D m d z y)) :
    Calls Tryz.prog 76 #[.agg #[.bool neg, .slice A n c, .slice D m d]] w fun e w' => e = .returned (.int .i64 z.sign) ∧ Below w.heap.size w w' := by
  have HBW := Lib.hid ((Below.refl w.heap.size w).alloc (Nat.le_refl _) (.cells #[.bool neg, .slice A n c, .slice D m d] 88))
  go_enter Tryz.func76, Tryz.ntmps76
  go_wp2_with fail
  refine (ISIGN_any neg A n c z _ B (Lib.hid (hh.out.1.below HBW.out hB))).mono ?_
  rintro e w1 ⟨rfl, hb1⟩
  have HB1 := Lib.hid (HBW.out.trans (hb1.mono HBW.out.size))
  clear hb1
  go_wp2_with fail
  go_ret
  exact ⟨rfl, HB1.out⟩
end Go.Proofs.YtkmcohnhanphdaaGreatDoor
/- The clipper's near. -/
namespace Go.Proofs.YtkmcohnhanphdaaGreatDoor
open Go.RowKit Go.Dw
end Go.Proofs.YtkmcohnhanphdaaGreatDoor
