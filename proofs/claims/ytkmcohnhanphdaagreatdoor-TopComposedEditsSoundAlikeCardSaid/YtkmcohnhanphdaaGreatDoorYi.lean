/- num.Rat: Sign, Whole, Frac, Floor, Ceil, Near. -/
import Derived.Test.YtkmcohnhanphdaaGreatDoorNqd
set_option linter.unusedSimpArgs false
set_option linter.unusedVariables false
namespace Go.Proofs.YtkmcohnhanphdaaGreatDoor
open Go.RowKit Go.Dw
theorem floor_pos {q : Rat} (h : ¬ q.num < 0) : q.floor = ((q.num.natAbs / q.den : Nat) : Int) := by
  rw [Rat.floor_def]
  obtain ⟨t, ht⟩ : ∃ t : Nat, q.num = (t : Int) := ⟨q.num.natAbs, by omega⟩
  rw [ht, Int.natAbs_natCast]
  exact (Int.natCast_ediv _ _).symm
theorem floor_neg {q : Rat} (h : q.num < 0) : q.floor = -((q.num.natAbs / q.den + (if 0 < q.num.natAbs % q.den then 1 else 0) : Nat) : Int) := by
  rw [Rat.floor_def]
  obtain ⟨t, ht⟩ : ∃ t : Nat, q.num = -(t : Int) := ⟨q.num.natAbs, by omega⟩
  rw [ht, Int.natAbs_neg, Int.natAbs_natCast]
  have hd := q.den_pos
  generalize q.den = d at hd
  have e := Nat.div_add_mod t d
  have hm := Nat.mod_lt t hd
  generalize hx : t / d = x at e ⊢
  generalize hy : t % d = y at e hm ⊢
  by_cases h0 : 0 < y
  · rw [if_pos h0]
    have : -(t : Int) = ((d - y : Nat) : Int) + (d : Int) * (-((x + 1 : Nat) : Int)) := by
      rw [← e]
      have h3 : (d : Int) * (-((x + 1 : Nat) : Int)) = -((d * x : Nat) : Int) - d := by
        rw [Int.mul_neg, ← Int.natCast_mul, Nat.mul_add, Nat.mul_one, Int.natCast_add]; omega
      rw [h3]; omega
    rw [this, Int.add_mul_ediv_left _ _ (by omega), Int.ediv_eq_zero_of_lt (by omega) (by omega), Int.zero_add]
  · rw [if_neg h0]
    have hy0 : y = 0 := by omega
    have : -(t : Int) = (d : Int) * (-((x : Nat) : Int)) := by
      rw [← e, hy0, Nat.add_zero, Int.mul_neg, ← Int.natCast_mul]
    rw [this, Int.mul_ediv_cancel_left _ (by omega), Nat.add_zero]
set_option maxRecDepth 100000 in
set_option maxHeartbeats 2000000 in
theorem QFLOOR_any (neg : Bool) (A D : Option Addr) (n c m d : Nat) (q : Rat) (hn : n ≤ 100000000) (hm : m ≤ 100000000) (w : World) (B : Nat) (hB : B ≤ w.heap.size) (hh : Hid (RatAt w B neg A n c D m d q)) :
    Calls Tryz.prog 107 #[.agg #[.bool neg, .slice A n c, .slice D m d]] w (OutI w q.floor (n + 2)) := by
  obtain ⟨W, gx, hW, hgx, HHW, HBW, HSW⟩ := boxes2 w (.cells #[.bool neg, .slice A n c, .slice D m d] 88) (.cells #[.bool false, .slice none 0 0] 82)
  have HGX := Lib.hid hgx
  obtain ⟨x0, x1, x2, _, _, _⟩ := three_cells HHW.out.1
  have HRW := Lib.hid (hh.out.to HBW.out hB (by have := HSW.out; omega))
  have HNEG := Lib.hid hh.out.1.1
  go_enter Tryz.func107, Tryz.ntmps107
  go_upto_region 1 with (fail)
  rw [← hW, ← hgx]
  clear hW hgx
  go_wp2_with fail
  refine (NDIV_any A D n c _ m d _ hn q.den_pos _ W.heap.size (Nat.le_refl _) (Lib.hid HRW.out.1.2) (Lib.hid HRW.out.2)).mono ?_
  rintro e w1 ⟨A1, n1, c1, A2, n2, c2, rfl, h1, h2, k1, k2, hb1⟩
  have H1 := Lib.hid h1
  have HPOS := Lib.hid (h2.pos_iff (by omega))
  have HB1 := Lib.hid hb1
  have z0 := (hb1.cell (p := ⟨gx, 0, none⟩) (blk_lt HHW.out.1)).trans x0
  clear h1 h2 hb1 x0 x1 x2
  have hhx := (HB1.out.block (gx + 1) (blk_lt HHW.out.2)).trans HHW.out.2
  obtain ⟨hr0, hr1, hf0, hf1⟩ := two_cells hhx
  have HHX := Lib.hid hhx
  clear hhx
  obtain ⟨x, hx⟩ : ∃ x, q.num.natAbs / q.den = x := ⟨_, rfl⟩
  rw [hx] at H1
  have HXX := Lib.hid hx
  clear hx
  cases neg with
  | false =>
    have hz : ¬ q.num < 0 := by have := HNEG.out; simpa using this
    have HFL := Lib.hid (floor_pos hz)
    rw [HXX.out] at HFL
    have HSG : Hid (false = decide (q.floor < 0)) := by show _ = _; rw [HFL.out]; exact (decide_eq_false (by omega)).symm
    clear hz
    go_wp2_with fail
    exact end_intn rfl rfl rfl hr0 hr1 (outI_set (z := q.floor) (neg := false) HSG.out (by have := HGX.out; omega) ⟨_, _, HHX.out⟩ (by rw [HFL.out]; (try rw [Int.natAbs_neg]); rw [Int.natAbs_natCast]; exact H1.out) (HBW.out.trans (HB1.out.mono (by have := HSW.out; omega))) (by omega))
  | true =>
    have hz : q.num < 0 := by have := HNEG.out; simpa using this
    have HFL := Lib.hid (floor_neg hz)
    rw [HXX.out] at HFL
    clear hz
    by_cases hr : 0 < n2
    · have hd : decide ((0 : Int) < (n2 : Int)) = true := by simp; omega
      rw [if_pos (HPOS.out.1 hr)] at HFL
      go_wp2_with fail
      refine (NONE_any _).mono ?_
      rintro e w2 ⟨A3, n3, c3, rfl, h3, k3, hb2⟩
      have H3 := Lib.hid h3
      have H12 := Lib.hid (H1.out.to hb2 (Nat.le_refl _) hb2.size)
      have HB2 := Lib.hid (HB1.out.trans (hb2.mono HB1.out.size))
      clear h3 hb2
      go_wp2_with fail
      refine (NADD_any A1 A3 n1 c1 _ n3 c3 1 (by omega) (by omega) _ w2.heap.size (Nat.le_refl _) H12 H3).mono ?_
      rintro e w3 ⟨A4, n4, c4, rfl, h4, k4, hb3⟩
      have H4 := Lib.hid h4
      have hp4 := (h4.pos_iff (by omega)).2 (by omega)
      have HB3 := Lib.hid (HB2.out.trans (hb3.mono HB2.out.size))
      clear h4 hb3 hr0 hr1 hf0 hf1 HHX
      have hhx := (HB3.out.block (gx + 1) (blk_lt HHW.out.2)).trans HHW.out.2
      obtain ⟨hr0, hr1, hf0, hf1⟩ := two_cells hhx
      have HHX := Lib.hid hhx
      clear hhx
      have hd4 : decide ((0 : Int) < (n4 : Int)) = true := by simp; omega
      have HSG : Hid (true = decide (q.floor < 0)) := by show _ = _; rw [HFL.out]; exact (decide_eq_true (by omega)).symm
      go_wp2_with fail
      exact end_intn rfl rfl rfl hr0 hr1 (outI_set (z := q.floor) (neg := true) HSG.out (by have := HGX.out; omega) ⟨_, _, HHX.out⟩ (by rw [HFL.out]; (try rw [Int.natAbs_neg]); rw [Int.natAbs_natCast]; exact H4.out) (HBW.out.trans (HB3.out.mono (by have := HSW.out; omega))) (by omega))
    · have hd : decide ((0 : Int) < (n2 : Int)) = false := by simp; omega
      rw [if_neg (fun h => hr (HPOS.out.2 h)), Nat.add_zero] at HFL
      have hp1 := H1.out.pos_iff (by omega)
      by_cases hn1 : 0 < n1
      · have hd4 : decide ((0 : Int) < (n1 : Int)) = true := by simp; omega
        have HSG : Hid (true = decide (q.floor < 0)) := by have := hp1.1 hn1; show _ = _; rw [HFL.out]; exact (decide_eq_true (by omega)).symm
        clear hp1
        go_wp2_with fail
        exact end_intn rfl rfl rfl hr0 hr1 (outI_set (z := q.floor) (neg := true) HSG.out (by have := HGX.out; omega) ⟨_, _, HHX.out⟩ (by rw [HFL.out]; (try rw [Int.natAbs_neg]); rw [Int.natAbs_natCast]; exact H1.out) (HBW.out.trans (HB1.out.mono (by have := HSW.out; omega))) (by omega))
      · have hd4 : decide ((0 : Int) < (n1 : Int)) = false := by simp; omega
        have HSG : Hid (false = decide (q.floor < 0)) := by
          have : ¬ 0 < x := fun h => hn1 (hp1.2 h)
          show _ = _; rw [HFL.out]; exact (decide_eq_false (by omega)).symm
        clear hp1
        go_wp2_with fail
        exact end_intn rfl rfl rfl hr0 hr1 (outI_set (z := q.floor) (neg := false) HSG.out (by have := HGX.out; omega) ⟨_, _, HHX.out⟩ (by rw [HFL.out]; (try rw [Int.natAbs_neg]); rw [Int.natAbs_natCast]; exact H1.out) (HBW.out.trans (HB1.out.mono (by have := HSW.out; omega))) (by omega))
end Go.Proofs.YtkmcohnhanphdaaGreatDoor
/- num.Rat: Ceil, Near, Frac. -/
namespace Go.Proofs.YtkmcohnhanphdaaGreatDoor
open Go.RowKit Go.Dw
theorem three_keep {W w1 : World} {a b c : Addr} {v0 v1 v2 : Value} (h : W.cell? a = some v0 ∧ W.cell? b = some v1 ∧ W.cell? c = some v2)
    (hb : Below W.heap.size W w1) (ha : a.block < W.heap.size) (hbb : b.block < W.heap.size) (hc : c.block < W.heap.size) : w1.cell? a = some v0 ∧ w1.cell? b = some v1 ∧ w1.cell? c = some v2 :=
  ⟨(hb.cell ha).trans h.1, (hb.cell hbb).trans h.2.1, (hb.cell hc).trans h.2.2⟩
set_option maxRecDepth 100000 in
set_option maxHeartbeats 2000000 in
theorem QCEIL_any (neg : Bool) (A D : Option Addr) (n c m d : Nat) (q : Rat) (hn : n ≤ 100000000) (hm : m ≤ 100000000) (w : World) (B : Nat) (hB : B ≤ w.heap.size) (hh : Hid (RatAt w B neg A n c D m d q)) :
    Calls Tryz.prog 108 #[.agg #[.bool neg, .slice A n c, .slice D m d]] w (OutI w q.ceil (n + 2)) := by
  obtain ⟨W, gx, hW, hgx, HHW, HBW, HSW⟩ := boxes2 w (.cells #[.bool neg, .slice A n c, .slice D m d] 88) (.cells #[.bool false, .slice none 0 0] 82)
  have HGX := Lib.hid hgx
  obtain ⟨x0, x1, x2, _, _, _⟩ := three_cells HHW.out.1
  have HRW := Lib.hid (hh.out.to HBW.out hB (by have := HSW.out; omega))
  have hgw := blk_lt HHW.out.2
  have HHR := Lib.hid HHW.out.2
  have HSZ := Lib.hid HBW.out.size
  go_enter Tryz.func108, Tryz.ntmps108
  go_upto_region 1 with (fail)
  rw [← hW, ← hgx]
  clear hW hgx HHW
  obtain ⟨W, rfl⟩ : ∃ Wx : World, Wx = W := ⟨_, rfl⟩
  refine wp_region_text 8 (fun x => x.cell? ⟨gx, 0, none⟩ = some (.bool neg) ∧ x.cell? ⟨gx, 1, none⟩ = some (.slice A n c) ∧ x.cell? ⟨gx, 2, none⟩ = some (.slice D m d)) (by kernel_rfl) (by kernel_rfl) ?_
  have hS : W.drew.cell? ⟨gx, 0, none⟩ = some (.bool neg) ∧ W.drew.cell? ⟨gx, 1, none⟩ = some (.slice A n c) ∧ W.drew.cell? ⟨gx, 2, none⟩ = some (.slice D m d) := ⟨x0, x1, x2⟩
  have hS0 := And.intro x0 (And.intro x1 x2)
  refine HT.take (i := 0) (oi := _) (v := ?_) rfl (by kernel_rfl) (by kernel_rfl) (by decide) (fun _ _ _ h => h) (Or.inl ⟨by rfl, ?_⟩) hS ?_
  rotate_left
  · intro wz
    go_simp
    try with_reducible rfl
  simp only [zA, zB, zC, Act.put, zD, zE, zF]
  refine HT.load (i := 1) (oi := _) (v := ?_) rfl (by kernel_rfl) (by kernel_rfl) (by decide) (fun _ _ _ h => h) (by kernel_rfl) (Or.inl ⟨by rfl, ?_⟩) hS ?_
  rotate_left
  · intro wz hwz
    try dsimp only at hwz
    go_simp
    try with_reducible rfl
  simp only [zA, zB, zC, Act.put, zD, zE, zF]
  refine HT.take (i := 3) (oi := _) (v := ?_) rfl (by kernel_rfl) (by kernel_rfl) (by decide) (fun _ _ _ h => h) (Or.inl ⟨by rfl, ?_⟩) hS ?_
  rotate_left
  · intro wz
    go_simp
    try with_reducible rfl
  simp only [zA, zB, zC, Act.put, zD, zE, zF]
  refine HT.load (i := 4) (oi := _) (v := ?_) rfl (by kernel_rfl) (by kernel_rfl) (by decide) (fun _ _ _ h => h) (by kernel_rfl) (Or.inl ⟨by rfl, ?_⟩) hS ?_
  rotate_left
  · intro wz hwz
    try dsimp only at hwz
    go_simp
    try with_reducible rfl
  simp only [zA, zB, zC, Act.put, zD, zE, zF]
  refine HT.one (i := 2) (o := _) rfl (by kernel_rfl) (by decide) (by rfl) ?_
  intro K hK
  go_simp
  refine (IMINUS_any neg A n c q.num _ W.heap.size (by exact Nat.le_refl _) (by exact Lib.hid HRW.out.1)).mono ?_
  rintro e w1 ⟨ng1, A1, n1, c1, rfl, h1, k1, hb1⟩
  replace hb1 : Below W.heap.size W w1 := below_undrew hb1
  have H1 := Lib.hid h1
  have HB1 := Lib.hid hb1
  clear h1 hb1
  refine hK.out _ _ (three_keep hS0 HB1.out (by dsimp only; omega) (by dsimp only; omega) (by dsimp only; omega)) ?_
  clear hK K hS
  have hS := three_keep hS0 HB1.out (by dsimp only; omega) (by dsimp only; omega) (by dsimp only; omega)
  try simp only [zA, zB, zC, Act.put, zD, zE, zF]
  refine HT.take (i := 5) (oi := _) (v := ?_) rfl (by kernel_rfl) (by kernel_rfl) (by decide) (fun _ _ _ h => h) (Or.inl ⟨by rfl, ?_⟩) hS ?_
  rotate_left
  · intro wz
    go_simp
    try with_reducible rfl
  simp only [zA, zB, zC, Act.put, zD, zE, zF]
  have HQ : Hid (RatAt w1 w1.heap.size ng1 A1 n1 c1 D m d (-q)) := by
    refine ⟨?_, ?_⟩
    · rw [Rat.neg_num]; exact H1.out
    · rw [Rat.neg_den]; exact HRW.out.2.to HB1.out (Nat.le_refl _) HB1.out.size
  refine HT.one (i := 6) (o := _) rfl (by kernel_rfl) (by decide) (by rfl) ?_
  intro K hK
  go_simp
  refine (QFLOOR_any ng1 A1 D n1 c1 m d (-q) (by omega) hm _ w1.heap.size (Nat.le_refl _) HQ).mono ?_
  rintro e w2 ⟨ng2, A2, n2, c2, rfl, h2, k2, hb2⟩
  have H2 := Lib.hid h2
  have HB2 := Lib.hid (HB1.out.trans (hb2.mono HB1.out.size))
  have HL2 := Lib.hid hb2
  clear h2 hb2
  refine hK.out _ _ (three_keep hS0 HB2.out (by dsimp only; omega) (by dsimp only; omega) (by dsimp only; omega)) ?_
  clear hK K hS
  have hS := three_keep hS0 HB2.out (by dsimp only; omega) (by dsimp only; omega) (by dsimp only; omega)
  try simp only [zA, zB, zC, Act.put, zD, zE, zF]
  refine HT.one (i := 7) (o := _) rfl (by kernel_rfl) (by decide) (by rfl) ?_
  intro K hK
  go_simp
  refine (IMINUS_any ng2 A2 n2 c2 (-q).floor _ w2.heap.size (Nat.le_refl _) H2).mono ?_
  rintro e w3 ⟨ng3, A3, n3, c3, rfl, h3, k3, hb3⟩
  have H3 := Lib.hid h3
  have HB3 := Lib.hid (HB2.out.trans (hb3.mono HB2.out.size))
  have HL3 := Lib.hid hb3
  clear h3 hb3
  refine hK.out _ _ (three_keep hS0 HB3.out (by dsimp only; omega) (by dsimp only; omega) (by dsimp only; omega)) ?_
  clear hK K hS
  have hS := three_keep hS0 HB3.out (by dsimp only; omega) (by dsimp only; omega) (by dsimp only; omega)
  try simp only [zA, zB, zC, Act.put, zD, zE, zF]
  have hhx := (HB3.out.block (gx + 1) hgw).trans HHR.out
  obtain ⟨hr0, hr1, hf0, hf1⟩ := two_cells hhx
  have HHX := Lib.hid hhx
  clear hhx
  refine HT.done (by kernel_rfl) ?_
  clear hS
  simp only [List.drop_succ_cons, List.drop_zero]
  go_wp2_with fail
  rw [Rat.ceil_eq_neg_floor_neg]
  exact end_intn rfl rfl rfl hr0 hr1 (outI_set (z := -(-q).floor) H3.out.1 (by have := HGX.out; omega) ⟨_, _, HHX.out⟩ H3.out.2 (HBW.out.trans (HB3.out.mono HSZ.out)) (by omega))
def nearQ (q : Rat) : Int := if q.num < 0 then -(((q.num.natAbs * 2 + q.den) / (q.den * 2) : Nat) : Int) else (((q.num.natAbs * 2 + q.den) / (q.den * 2) : Nat) : Int)
theorem NTWO_at (w : World) : NumAt .u32 164 4294967296 (w.alloc (.cells #[.int .u32 2] 164)) (w.heap.size + 1) (some ⟨w.heap.size, 0, none⟩) 1 1 2 := by
  have hb : BlkN .u32 164 (w.alloc (.cells #[.int .u32 2] 164)) w.heap.size [2] := BlkN.mk .u32 164 w [2]
  exact ⟨Nat.le_refl _, by decide, _, canon1 _ 2 (by omega) (by omega), by simp [valB], hb.row (by omega)⟩
set_option maxRecDepth 100000 in
set_option maxHeartbeats 4000000 in
theorem QNEAR_any (neg : Bool) (A D : Option Addr) (n c m d : Nat) (q : Rat) (hn : n ≤ 10000000) (hm : m ≤ 10000000) (w : World) (B : Nat) (hB : B ≤ w.heap.size) (hh : Hid (RatAt w B neg A n c D m d q)) :
    Calls Tryz.prog 74 #[.agg #[.bool neg, .slice A n c, .slice D m d]] w (OutI w (nearQ q) (max (n + 1) m + 1)) := by
  obtain ⟨W0, gx, hW, hgx, HHW, HBW, HSW⟩ := boxes2 w (.cells #[.bool neg, .slice A n c, .slice D m d] 88) (.cells #[.bool false, .slice none 0 0] 82)
  have HGX := Lib.hid hgx
  have HNEG := Lib.hid hh.out.1.1
  have HHR := Lib.hid HHW.out.2
  go_enter Tryz.func74, Tryz.ntmps74
  go_upto_region 1 with (fail)
  rw [← hW, ← hgx]
  have hg0 := blk_lt HHW.out.1
  have hg1 := blk_lt HHW.out.2
  clear hW hgx
  go_upto_region 2 with (fail)
  obtain ⟨W, g2, hW2, hg2, HH2, HB2, HS2⟩ := cell_new W0 164 #[.int .u32 2]
  rw [← hW2, ← hg2]
  have hhx := (HB2.out.block gx hg0).trans HHW.out.1
  obtain ⟨x0, x1, x2, _, _, _⟩ := three_cells hhx
  have HHR2 := Lib.hid ((HB2.out.block (gx + 1) hg1).trans HHW.out.2)
  have hgw := blk_lt HHR2.out
  have HTWO : Hid (NumAt .u32 164 4294967296 W W.heap.size (some ⟨g2, 0, none⟩) 1 1 2) := by
    show NumAt _ _ _ _ _ _ _ _ _
    rw [hW2, hg2]
    exact (NTWO_at W0).mono (by simp)
  have HBA := Lib.hid (HBW.out.trans (HB2.out.mono HBW.out.size))
  have HRW := Lib.hid (hh.out.to HBA.out hB (Nat.le_trans hB HBA.out.size))
  have HSZ := Lib.hid HBA.out.size
  clear hW2 hg2 HHW hhx hg0 hg1
  obtain ⟨W, rfl⟩ : ∃ Wx : World, Wx = W := ⟨_, rfl⟩
  refine wp_region_text 18 (fun x => x.cell? ⟨gx, 0, none⟩ = some (.bool neg) ∧ x.cell? ⟨gx, 1, none⟩ = some (.slice A n c) ∧ x.cell? ⟨gx, 2, none⟩ = some (.slice D m d)) (by kernel_rfl) (by kernel_rfl) ?_
  have hS : W.drew.cell? ⟨gx, 0, none⟩ = some (.bool neg) ∧ W.drew.cell? ⟨gx, 1, none⟩ = some (.slice A n c) ∧ W.drew.cell? ⟨gx, 2, none⟩ = some (.slice D m d) := ⟨x0, x1, x2⟩
  have hS0 := And.intro x0 (And.intro x1 x2)
  refine HT.take (i := 0) (oi := _) (v := ?_) rfl (by kernel_rfl) (by kernel_rfl) (by decide) (fun _ _ _ h => h) (Or.inl ⟨by rfl, ?_⟩) hS ?_
  rotate_left
  · intro wz
    go_simp
    try with_reducible rfl
  simp only [zA, zB, zC, Act.put, zD, zE, zF]
  refine HT.take (i := 1) (oi := _) (v := ?_) rfl (by kernel_rfl) (by kernel_rfl) (by decide) (fun _ _ _ h => h) (Or.inl ⟨by rfl, ?_⟩) hS ?_
  rotate_left
  · intro wz
    go_simp
    try with_reducible rfl
  simp only [zA, zB, zC, Act.put, zD, zE, zF]
  refine HT.load (i := 2) (oi := _) (v := ?_) rfl (by kernel_rfl) (by kernel_rfl) (by decide) (fun _ _ _ h => h) (by kernel_rfl) (Or.inl ⟨by rfl, ?_⟩) hS ?_
  rotate_left
  · intro wz hwz
    try dsimp only at hwz
    go_simp
    try with_reducible rfl
  simp only [zA, zB, zC, Act.put, zD, zE, zF]
  refine HT.take (i := 3) (oi := _) (v := ?_) rfl (by kernel_rfl) (by kernel_rfl) (by decide) (fun _ _ _ h => h) (Or.inl ⟨by rfl, ?_⟩) hS ?_
  rotate_left
  · intro wz
    go_simp
    try with_reducible rfl
  simp only [zA, zB, zC, Act.put, zD, zE, zF]
  refine HT.take (i := 5) (oi := _) (v := ?_) rfl (by kernel_rfl) (by kernel_rfl) (by decide) (fun _ _ _ h => h) (Or.inl ⟨by rfl, ?_⟩) hS ?_
  rotate_left
  · intro wz
    go_simp
    try with_reducible rfl
  simp only [zA, zB, zC, Act.put, zD, zE, zF]
  refine HT.load (i := 6) (oi := _) (v := ?_) rfl (by kernel_rfl) (by kernel_rfl) (by decide) (fun _ _ _ h => h) (by kernel_rfl) (Or.inl ⟨by rfl, ?_⟩) hS ?_
  rotate_left
  · intro wz hwz
    try dsimp only at hwz
    go_simp
    try with_reducible rfl
  simp only [zA, zB, zC, Act.put, zD, zE, zF]
  refine HT.take (i := 8) (oi := _) (v := ?_) rfl (by kernel_rfl) (by kernel_rfl) (by decide) (fun _ _ _ h => h) (Or.inl ⟨by rfl, ?_⟩) hS ?_
  rotate_left
  · intro wz
    go_simp
    try with_reducible rfl
  simp only [zA, zB, zC, Act.put, zD, zE, zF]
  refine HT.load (i := 9) (oi := _) (v := ?_) rfl (by kernel_rfl) (by kernel_rfl) (by decide) (fun _ _ _ h => h) (by kernel_rfl) (Or.inl ⟨by rfl, ?_⟩) hS ?_
  rotate_left
  · intro wz hwz
    try dsimp only at hwz
    go_simp
    try with_reducible rfl
  simp only [zA, zB, zC, Act.put, zD, zE, zF]
  refine HT.take (i := 10) (oi := _) (v := ?_) rfl (by kernel_rfl) (by kernel_rfl) (by decide) (fun _ _ _ h => h) (Or.inl ⟨by rfl, ?_⟩) hS ?_
  rotate_left
  · intro wz
    go_simp
    try with_reducible rfl
  simp only [zA, zB, zC, Act.put, zD, zE, zF]
  refine HT.one (i := 4) (o := _) rfl (by kernel_rfl) (by decide) (by rfl) ?_
  intro K hK
  go_simp
  refine (NMUL_any A (some ⟨g2, 0, none⟩) n c _ 1 1 2 (by omega) (by omega) _ W.heap.size (by exact Nat.le_refl _) (by exact Lib.hid HRW.out.1.2) (by exact HTWO)).mono ?_
  rintro e w1 ⟨A1, n1, c1, rfl, h1, k1, hb1⟩
  replace hb1 : Below W.heap.size W w1 := below_undrew hb1
  have H1 := Lib.hid h1
  have HB1 := Lib.hid hb1
  clear h1 hb1
  refine hK.out _ _ (three_keep hS0 HB1.out (by dsimp only; omega) (by dsimp only; omega) (by dsimp only; omega)) ?_
  clear hK K hS
  have hS := three_keep hS0 HB1.out (by dsimp only; omega) (by dsimp only; omega) (by dsimp only; omega)
  try simp only [zA, zB, zC, Act.put, zD, zE, zF]
  refine HT.one (i := 7) (o := _) rfl (by kernel_rfl) (by decide) (by rfl) ?_
  intro K hK
  go_simp
  refine (NADD_any A1 D n1 c1 _ m d q.den (by omega) (by omega) _ w1.heap.size (Nat.le_refl _) H1 (by exact Lib.hid (HRW.out.2.to HB1.out (Nat.le_refl _) HB1.out.size))).mono ?_
  rintro e w2 ⟨A2, n2, c2, rfl, h2, k2, hb2⟩
  have H2 := Lib.hid h2
  have HB2 := Lib.hid (HB1.out.trans (hb2.mono HB1.out.size))
  have HL2 := Lib.hid hb2
  clear h2 hb2
  refine hK.out _ _ (three_keep hS0 HB2.out (by dsimp only; omega) (by dsimp only; omega) (by dsimp only; omega)) ?_
  clear hK K hS
  have hS := three_keep hS0 HB2.out (by dsimp only; omega) (by dsimp only; omega) (by dsimp only; omega)
  try simp only [zA, zB, zC, Act.put, zD, zE, zF]
  refine HT.one (i := 11) (o := _) rfl (by kernel_rfl) (by decide) (by rfl) ?_
  intro K hK
  go_simp
  refine (NMUL_any D (some ⟨g2, 0, none⟩) m d _ 1 1 2 (by omega) (by omega) _ w2.heap.size (by exact Nat.le_refl _) (by exact Lib.hid (HRW.out.2.to HB2.out (Nat.le_refl _) HB2.out.size)) (by exact Lib.hid (HTWO.out.to HB2.out (Nat.le_refl _) HB2.out.size))).mono ?_
  rintro e w3 ⟨A3, n3, c3, rfl, h3, k3, hb3⟩
  have H3 := Lib.hid h3
  have HB3 := Lib.hid (HB2.out.trans (hb3.mono HB2.out.size))
  have HL3 := Lib.hid hb3
  clear h3 hb3
  refine hK.out _ _ (three_keep hS0 HB3.out (by dsimp only; omega) (by dsimp only; omega) (by dsimp only; omega)) ?_
  clear hK K hS
  have hS := three_keep hS0 HB3.out (by dsimp only; omega) (by dsimp only; omega) (by dsimp only; omega)
  try simp only [zA, zB, zC, Act.put, zD, zE, zF]
  have hdp := q.den_pos
  refine HT.one (i := 12) (o := _) rfl (by kernel_rfl) (by decide) (by rfl) ?_
  intro K hK
  go_simp
  refine (NDIV_any A2 A3 n2 c2 _ n3 c3 (q.den * 2) (by omega) (by omega) _ w3.heap.size (by exact Nat.le_refl _) (by exact Lib.hid (H2.out.to HL3.out (Nat.le_refl _) HL3.out.size)) (by exact H3)).mono ?_
  rintro e w4 ⟨A4, n4, c4, A5, n5, c5, rfl, h4, _, k4, _, hb4⟩
  have H4 := Lib.hid h4
  have HB4 := Lib.hid (HB3.out.trans (hb4.mono HB3.out.size))
  have HL4 := Lib.hid hb4
  clear h4 hb4
  refine hK.out _ _ (three_keep hS0 HB4.out (by dsimp only; omega) (by dsimp only; omega) (by dsimp only; omega)) ?_
  clear hK K hS
  have hS := three_keep hS0 HB4.out (by dsimp only; omega) (by dsimp only; omega) (by dsimp only; omega)
  try simp only [zA, zB, zC, Act.put, zD, zE, zF]
  refine HT.take (i := 13) (oi := _) (v := ?_) rfl (by kernel_rfl) (by kernel_rfl) (by decide) (fun _ _ _ h => h) (Or.inl ⟨by rfl, ?_⟩) hS ?_
  rotate_left
  · intro wz
    go_simp
    try with_reducible rfl
  simp only [zA, zB, zC, Act.put, zD, zE, zF]
  refine HT.take (i := 14) (oi := _) (v := ?_) rfl (by kernel_rfl) (by kernel_rfl) (by decide) (fun _ _ _ h => h) (Or.inl ⟨by rfl, ?_⟩) hS ?_
  rotate_left
  · intro wz
    go_simp
    try with_reducible rfl
  simp only [zA, zB, zC, Act.put, zD, zE, zF]
  refine HT.take (i := 15) (oi := _) (v := ?_) rfl (by kernel_rfl) (by kernel_rfl) (by decide) (fun _ _ _ h => h) (Or.inl ⟨by rfl, ?_⟩) hS ?_
  rotate_left
  · intro wz
    go_simp
    try with_reducible rfl
  simp only [zA, zB, zC, Act.put, zD, zE, zF]
  refine HT.take (i := 16) (oi := _) (v := ?_) rfl (by kernel_rfl) (by kernel_rfl) (by decide) (fun _ _ _ h => h) (Or.inl ⟨by rfl, ?_⟩) hS ?_
  rotate_left
  · intro wz
    go_simp
    try with_reducible rfl
  simp only [zA, zB, zC, Act.put, zD, zE, zF]
  refine HT.take (i := 17) (oi := _) (v := ?_) rfl (by kernel_rfl) (by kernel_rfl) (by decide) (fun _ _ _ h => h) (Or.inl ⟨by rfl, ?_⟩) hS ?_
  rotate_left
  · intro wz
    go_simp
    try with_reducible rfl
  simp only [zA, zB, zC, Act.put, zD, zE, zF]
  obtain ⟨z0, z1, z2⟩ := hS
  have hS := z0
  have hhx := (HB4.out.block (gx + 1) hgw).trans HHR2.out
  obtain ⟨hr0, hr1, hf0, hf1⟩ := two_cells hhx
  have HHX := Lib.hid hhx
  have HPOS := Lib.hid (H4.out.pos_iff (by omega))
  obtain ⟨x, hx⟩ : ∃ x, (q.num.natAbs * 2 + q.den) / (q.den * 2) = x := ⟨_, rfl⟩
  have HX := Lib.hid hx
  rw [hx] at H4 HPOS
  clear hhx hx z1 z2 hdp
  refine HT.done (by kernel_rfl) ?_
  clear hS
  simp only [List.drop_succ_cons, List.drop_zero]
  cases neg with
  | false =>
    have hz : ¬ q.num < 0 := by have := HNEG.out; simpa using this
    have HNQ : Hid (nearQ q = (x : Int)) := by show _ = _; unfold nearQ; rw [if_neg hz, HX.out]
    have HSG : Hid (false = decide (nearQ q < 0)) := by show _ = _; rw [HNQ.out]; exact (decide_eq_false (by omega)).symm
    clear hz
    go_wp2_with fail
    exact end_intn rfl rfl rfl hr0 hr1 (outI_set (z := nearQ q) (neg := false) HSG.out (by have := HGX.out; omega) ⟨_, _, HHX.out⟩ (by rw [HNQ.out]; (try rw [Int.natAbs_neg]); rw [Int.natAbs_natCast]; exact H4.out) (HBA.out.trans (HB4.out.mono HSZ.out)) (by omega))
  | true =>
    have hz : q.num < 0 := by have := HNEG.out; simpa using this
    have HNQ : Hid (nearQ q = -(x : Int)) := by show _ = _; unfold nearQ; rw [if_pos hz, HX.out]
    clear hz
    by_cases hn4 : 0 < n4
    · have hd4 : decide ((0 : Int) < (n4 : Int)) = true := by simp; omega
      have HSG : Hid (true = decide (nearQ q < 0)) := by have := HPOS.out.1 hn4; show _ = _; rw [HNQ.out]; exact (decide_eq_true (by omega)).symm
      go_wp2_with fail
      exact end_intn rfl rfl rfl hr0 hr1 (outI_set (z := nearQ q) (neg := true) HSG.out (by have := HGX.out; omega) ⟨_, _, HHX.out⟩ (by rw [HNQ.out]; (try rw [Int.natAbs_neg]); rw [Int.natAbs_natCast]; exact H4.out) (HBA.out.trans (HB4.out.mono HSZ.out)) (by omega))
    · have hd4 : decide ((0 : Int) < (n4 : Int)) = false := by simp; omega
      have HSG : Hid (false = decide (nearQ q < 0)) := by
        have : ¬ 0 < x := fun h => hn4 (HPOS.out.2 h)
        show _ = _; rw [HNQ.out]; exact (decide_eq_false (by omega)).symm
      go_wp2_with fail
      exact end_intn rfl rfl rfl hr0 hr1 (outI_set (z := nearQ q) (neg := false) HSG.out (by have := HGX.out; omega) ⟨_, _, HHX.out⟩ (by rw [HNQ.out]; (try rw [Int.natAbs_neg]); rw [Int.natAbs_natCast]; exact H4.out) (HBA.out.trans (HB4.out.mono HSZ.out)) (by omega))
end Go.Proofs.YtkmcohnhanphdaaGreatDoor
