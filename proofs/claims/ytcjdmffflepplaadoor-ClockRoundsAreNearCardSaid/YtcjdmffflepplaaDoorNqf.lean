/- num.Rat: Sign, Whole, Frac, Floor, Ceil, Near. -/
import Derived.Test.YtcjdmffflepplaaDoorNqd
set_option linter.unusedSimpArgs false
set_option linter.unusedVariables false
namespace Go.Proofs.YtcjdmffflepplaaDoor
open Go.RowKit Go.Dw
set_option maxRecDepth 100000 in
set_option maxHeartbeats 1000000 in
theorem QSIGN_any (neg : Bool) (A D : Option Addr) (n c m d : Nat) (q : Rat) (w : World) (B : Nat) (hB : B ≤ w.heap.size) (hh : Hid (RatAt w B neg A n c D m d q)) :
    Calls Tryd.prog 34 #[.agg #[.bool neg, .slice A n c, .slice D m d]] w fun e w' => e = .returned (.int .i64 q.num.sign) ∧ Below w.heap.size w w' := by
  have HBW := Lib.hid ((Below.refl w.heap.size w).alloc (Nat.le_refl _) (.cells #[.bool neg, .slice A n c, .slice D m d] 46))
  go_enter Tryd.func34, Tryd.ntmps34
  go_wp2_with fail
  refine (ISIGN_any neg A n c q.num _ B (Lib.hid (hh.out.1.below HBW.out hB))).mono ?_
  rintro e w1 ⟨rfl, hb1⟩
  have HB1 := Lib.hid (HBW.out.trans (hb1.mono HBW.out.size))
  clear hb1
  go_wp2_with fail
  go_ret
  exact ⟨rfl, HB1.out⟩
set_option maxRecDepth 100000 in
set_option maxHeartbeats 1000000 in
theorem QWHOLE_any (z : Int) (h1 : -9223372036854775808 ≤ z) (h2 : z ≤ 9223372036854775807) (w : World) : Calls Tryd.prog 35 #[.int .i64 z] w (OutQ w (z : Rat) 2 1) := by
  obtain ⟨W, gx, hW, hgx, HHW, HBW, HSW⟩ := cell_new w 46 #[.bool false, .slice none 0 0, .slice none 0 0]
  have HGX := Lib.hid hgx
  have hgw := blk_lt HHW.out
  go_enter Tryd.func35, Tryd.ntmps35
  go_wp2_with fail
  rw [← hW, ← hgx]
  clear hW hgx
  refine (IOF_any z h1 h2 _).mono ?_
  rintro e w1 ⟨ng, A1, n1, c1, rfl, h3, k1, hb1⟩
  have H1 := Lib.hid h3
  have HB1 := Lib.hid hb1
  clear h3 hb1
  go_wp2_with fail
  refine (NONE_any _).mono ?_
  rintro e w2 ⟨A2, n2, c2, rfl, h4, k2, hb2⟩
  have H2 := Lib.hid h4
  have H12 := Lib.hid (H1.out.to hb2 (Nat.le_refl _) hb2.size)
  have HB2 := Lib.hid (HB1.out.trans (hb2.mono HB1.out.size))
  have hhx := (HB2.out.block gx hgw).trans HHW.out
  obtain ⟨hr0, hr1, hr2, hf0, hf1, hf2⟩ := three_cells hhx
  have HHX := Lib.hid hhx
  clear h4 hb2 hhx
  go_wp2_with fail
  exact end_rat rfl rfl rfl hr0 hr1 hr2 (outQ_set (q := (z : Rat)) H12.out.1 (by have := HGX.out; omega) ⟨_, _, HHX.out⟩ H12.out.2 H2.out (HBW.out.trans (HB2.out.mono (by have := HSW.out; omega))) k1 k2)
/-- the whole number below -/
theorem floor_pos {q : Rat} (h : ¬ q.num < 0) : q.floor = ((q.num.natAbs / q.den : Nat) : Int) := by
  rw [Rat.floor_def]
  obtain ⟨t, ht⟩ : ∃ t : Nat, q.num = (t : Int) := ⟨q.num.natAbs, by omega⟩
  rw [ht, Int.natAbs_natCast]
  exact (Int.natCast_ediv _ _).symm
theorem floor_neg {q : Rat} (h : q.num < 0) : q.floor = -((q.num.natAbs / q.den + (if 0 < q.num.natAbs % q.den then 1 else 0) : Nat) : Int) := by
  rw [Rat.floor_def]
  obtain ⟨t, ht⟩ : ∃ t : Nat, q.num = -(t : Int) := ⟨q.num.natAbs, by omega⟩
  rw [ht, Int.natAbs_neg, Int.natAbs_natCast]
  have hd := q.den_pos
  generalize q.den = d at hd
  have e := Nat.div_add_mod t d
  have hm := Nat.mod_lt t hd
  generalize hx : t / d = x at e ⊢
  generalize hy : t % d = y at e hm ⊢
  by_cases h0 : 0 < y
  · rw [if_pos h0]
    have : -(t : Int) = ((d - y : Nat) : Int) + (d : Int) * (-((x + 1 : Nat) : Int)) := by
      rw [← e]
      have h3 : (d : Int) * (-((x + 1 : Nat) : Int)) = -((d * x : Nat) : Int) - d := by
        rw [Int.mul_neg, ← Int.natCast_mul, Nat.mul_add, Nat.mul_one, Int.natCast_add]; omega
      rw [h3]; omega
    rw [this, Int.add_mul_ediv_left _ _ (by omega), Int.ediv_eq_zero_of_lt (by omega) (by omega), Int.zero_add]
  · rw [if_neg h0]
    have hy0 : y = 0 := by omega
    have : -(t : Int) = (d : Int) * (-((x : Nat) : Int)) := by
      rw [← e, hy0, Nat.add_zero, Int.mul_neg, ← Int.natCast_mul]
    rw [this, Int.mul_ediv_cancel_left _ (by omega), Nat.add_zero]
set_option maxRecDepth 100000 in
set_option maxHeartbeats 2000000 in
theorem QFLOOR_any (neg : Bool) (A D : Option Addr) (n c m d : Nat) (q : Rat) (hn : n ≤ 100000000) (hm : m ≤ 100000000) (w : World) (B : Nat) (hB : B ≤ w.heap.size) (hh : Hid (RatAt w B neg A n c D m d q)) :
    Calls Tryd.prog 43 #[.agg #[.bool neg, .slice A n c, .slice D m d]] w (OutI w q.floor (n + 2)) := by
  obtain ⟨W, gx, hW, hgx, HHW, HBW, HSW⟩ := boxes2 w (.cells #[.bool neg, .slice A n c, .slice D m d] 46) (.cells #[.bool false, .slice none 0 0] 43)
  have HGX := Lib.hid hgx
  obtain ⟨x0, x1, x2, _, _, _⟩ := three_cells HHW.out.1
  have HRW := Lib.hid (hh.out.to HBW.out hB (by have := HSW.out; omega))
  have HNEG := Lib.hid hh.out.1.1
  go_enter Tryd.func43, Tryd.ntmps43
  go_upto_region 1 with (fail)
  rw [← hW, ← hgx]
  clear hW hgx
  go_wp2_with fail
  refine (NDIV_any A D n c _ m d _ hn q.den_pos _ W.heap.size (Nat.le_refl _) (Lib.hid HRW.out.1.2) (Lib.hid HRW.out.2)).mono ?_
  rintro e w1 ⟨A1, n1, c1, A2, n2, c2, rfl, h1, h2, k1, k2, hb1⟩
  have H1 := Lib.hid h1
  have HPOS := Lib.hid (h2.pos_iff (by omega))
  have HB1 := Lib.hid hb1
  have z0 := (hb1.cell (p := ⟨gx, 0, none⟩) (blk_lt HHW.out.1)).trans x0
  clear h1 h2 hb1 x0 x1 x2
  have hhx := (HB1.out.block (gx + 1) (blk_lt HHW.out.2)).trans HHW.out.2
  obtain ⟨hr0, hr1, hf0, hf1⟩ := two_cells hhx
  have HHX := Lib.hid hhx
  clear hhx
  obtain ⟨x, hx⟩ : ∃ x, q.num.natAbs / q.den = x := ⟨_, rfl⟩
  rw [hx] at H1
  have HXX := Lib.hid hx
  clear hx
  cases neg with
  | false =>
    have hz : ¬ q.num < 0 := by have := HNEG.out; simpa using this
    have HFL := Lib.hid (floor_pos hz)
    rw [HXX.out] at HFL
    have HSG : Hid (false = decide (q.floor < 0)) := by show _ = _; rw [HFL.out]; exact (decide_eq_false (by omega)).symm
    clear hz
    go_wp2_with fail
    exact end_intn rfl rfl rfl hr0 hr1 (outI_set (z := q.floor) (neg := false) HSG.out (by have := HGX.out; omega) ⟨_, _, HHX.out⟩ (by rw [HFL.out]; (try rw [Int.natAbs_neg]); rw [Int.natAbs_natCast]; exact H1.out) (HBW.out.trans (HB1.out.mono (by have := HSW.out; omega))) (by omega))
  | true =>
    have hz : q.num < 0 := by have := HNEG.out; simpa using this
    have HFL := Lib.hid (floor_neg hz)
    rw [HXX.out] at HFL
    clear hz
    by_cases hr : 0 < n2
    · have hd : decide ((0 : Int) < (n2 : Int)) = true := by simp; omega
      rw [if_pos (HPOS.out.1 hr)] at HFL
      go_wp2_with fail
      refine (NONE_any _).mono ?_
      rintro e w2 ⟨A3, n3, c3, rfl, h3, k3, hb2⟩
      have H3 := Lib.hid h3
      have H12 := Lib.hid (H1.out.to hb2 (Nat.le_refl _) hb2.size)
      have HB2 := Lib.hid (HB1.out.trans (hb2.mono HB1.out.size))
      clear h3 hb2
      go_wp2_with fail
      refine (NADD_any A1 A3 n1 c1 _ n3 c3 1 (by omega) (by omega) _ w2.heap.size (Nat.le_refl _) H12 H3).mono ?_
      rintro e w3 ⟨A4, n4, c4, rfl, h4, k4, hb3⟩
      have H4 := Lib.hid h4
      have hp4 := (h4.pos_iff (by omega)).2 (by omega)
      have HB3 := Lib.hid (HB2.out.trans (hb3.mono HB2.out.size))
      clear h4 hb3 hr0 hr1 hf0 hf1 HHX
      have hhx := (HB3.out.block (gx + 1) (blk_lt HHW.out.2)).trans HHW.out.2
      obtain ⟨hr0, hr1, hf0, hf1⟩ := two_cells hhx
      have HHX := Lib.hid hhx
      clear hhx
      have hd4 : decide ((0 : Int) < (n4 : Int)) = true := by simp; omega
      have HSG : Hid (true = decide (q.floor < 0)) := by show _ = _; rw [HFL.out]; exact (decide_eq_true (by omega)).symm
      go_wp2_with fail
      exact end_intn rfl rfl rfl hr0 hr1 (outI_set (z := q.floor) (neg := true) HSG.out (by have := HGX.out; omega) ⟨_, _, HHX.out⟩ (by rw [HFL.out]; (try rw [Int.natAbs_neg]); rw [Int.natAbs_natCast]; exact H4.out) (HBW.out.trans (HB3.out.mono (by have := HSW.out; omega))) (by omega))
    · have hd : decide ((0 : Int) < (n2 : Int)) = false := by simp; omega
      rw [if_neg (fun h => hr (HPOS.out.2 h)), Nat.add_zero] at HFL
      have hp1 := H1.out.pos_iff (by omega)
      by_cases hn1 : 0 < n1
      · have hd4 : decide ((0 : Int) < (n1 : Int)) = true := by simp; omega
        have HSG : Hid (true = decide (q.floor < 0)) := by have := hp1.1 hn1; show _ = _; rw [HFL.out]; exact (decide_eq_true (by omega)).symm
        clear hp1
        go_wp2_with fail
        exact end_intn rfl rfl rfl hr0 hr1 (outI_set (z := q.floor) (neg := true) HSG.out (by have := HGX.out; omega) ⟨_, _, HHX.out⟩ (by rw [HFL.out]; (try rw [Int.natAbs_neg]); rw [Int.natAbs_natCast]; exact H1.out) (HBW.out.trans (HB1.out.mono (by have := HSW.out; omega))) (by omega))
      · have hd4 : decide ((0 : Int) < (n1 : Int)) = false := by simp; omega
        have HSG : Hid (false = decide (q.floor < 0)) := by
          have : ¬ 0 < x := fun h => hn1 (hp1.2 h)
          show _ = _; rw [HFL.out]; exact (decide_eq_false (by omega)).symm
        clear hp1
        go_wp2_with fail
        exact end_intn rfl rfl rfl hr0 hr1 (outI_set (z := q.floor) (neg := false) HSG.out (by have := HGX.out; omega) ⟨_, _, HHX.out⟩ (by rw [HFL.out]; (try rw [Int.natAbs_neg]); rw [Int.natAbs_natCast]; exact H1.out) (HBW.out.trans (HB1.out.mono (by have := HSW.out; omega))) (by omega))
end Go.Proofs.YtcjdmffflepplaaDoor
