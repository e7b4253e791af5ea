/- clock: Frac, isPos, IsRate, isWay, round, position, Convert. -/
import Derived.Test.YtkmcohnhanphdaaGreatDoorYj
import Derived.Test.YtkmcohnhanphdaaGreatDoorZb
set_option linter.unusedSimpArgs false
set_option linter.unusedVariables false
namespace Go.Proofs.YtkmcohnhanphdaaGreatDoor
open Go.RowKit Go.Dw
theorem frac_pos (a b : Int) (hb : 0 < b) : mkRat a b.natAbs = (a : Rat) / b := by
  have h : ((b.natAbs : Nat) : Int) = b := by omega
  rw [Rat.mkRat_eq_div, ← Rat.intCast_natCast, h]
theorem frac_neg (a b : Int) (hb : b < 0) : mkRat (-a) b.natAbs = (a : Rat) / b := by
  have h : ((b.natAbs : Nat) : Int) = -b := by omega
  rw [Rat.mkRat_eq_div, ← Rat.intCast_natCast, h, ← Rat.divInt_eq_div, Rat.neg_divInt_neg, Rat.divInt_eq_div]
end Go.Proofs.YtkmcohnhanphdaaGreatDoor
/- clock: round, position, Convert. -/
namespace Go.Proofs.YtkmcohnhanphdaaGreatDoor
open Go.RowKit Go.Dw
def roundQ (q : Rat) (way : Int) : Int := if way = 1 then q.floor else if way = 3 then q.ceil else nearQ q
set_option maxRecDepth 100000 in
set_option maxHeartbeats 2000000 in
theorem CROUND_any (neg : Bool) (A D : Option Addr) (n c m d : Nat) (q : Rat) (way : Int) (hn : n ≤ 10000000) (hm : m ≤ 10000000) (w : World) (B : Nat) (hB : B ≤ w.heap.size) (hh : Hid (RatAt w B neg A n c D m d q)) :
    Calls Tryz.prog 61 #[.agg #[.bool neg, .slice A n c, .slice D m d], .int .i64 way] w (OutI w (roundQ q way) (max (n + 1) m + 1)) := by
  obtain ⟨W, gx, hW, hgx, HHW, HBW, HSW⟩ := boxes2 w (.cells #[.bool neg, .slice A n c, .slice D m d] 88) (.cells #[.bool false, .slice none 0 0] 82)
  have HGX := Lib.hid hgx
  obtain ⟨x0, x1, x2, _, _, _⟩ := three_cells HHW.out.1
  have HRW := Lib.hid (hh.out.to HBW.out hB (by have := HSW.out; omega))
  have hgw := blk_lt HHW.out.2
  have HHR := Lib.hid HHW.out.2
  have HSZ := Lib.hid HBW.out.size
  go_enter Tryz.func61, Tryz.ntmps61
  go_upto_region 1 with (fail)
  rw [← hW, ← hgx]
  clear hW hgx HHW
  by_cases h1 : way = 1
  · have HV : Hid (roundQ q way = q.floor) := by show _ = _; unfold roundQ; rw [if_pos h1]
    subst h1
    go_wp2_with fail
    refine (QFLOOR_any neg A D n c m d q (by omega) (by omega) _ W.heap.size (Nat.le_refl _) HRW).mono ?_
    rintro e w1 ⟨ng1, A1, n1, c1, rfl, h1, k1, hb1⟩
    have HB1 := Lib.hid hb1
    have H1 := Lib.hid h1
    have hhx := (HB1.out.block (gx + 1) hgw).trans HHR.out
    obtain ⟨hr0, hr1, hf0, hf1⟩ := two_cells hhx
    have HHX := Lib.hid hhx
    clear hhx h1 hb1
    go_wp2_with fail
    exact end_intn rfl rfl rfl hr0 hr1 (outI_set (z := roundQ q 1) (by rw [HV.out]; exact H1.out.1) (by have := HGX.out; omega) ⟨_, _, HHX.out⟩ (by rw [HV.out]; exact H1.out.2) (HBW.out.trans (HB1.out.mono HSZ.out)) (by omega))
  · have hd1 : (way == 1) = false := by simpa using h1
    by_cases h3 : way = 3
    · have HV : Hid (roundQ q way = q.ceil) := by show _ = _; unfold roundQ; rw [if_neg h1, if_pos h3]
      subst h3
      clear h1 hd1
      go_wp2_with fail
      refine (QCEIL_any neg A D n c m d q (by omega) (by omega) _ W.heap.size (Nat.le_refl _) HRW).mono ?_
      rintro e w1 ⟨ng1, A1, n1, c1, rfl, h1, k1, hb1⟩
      have HB1 := Lib.hid hb1
      have H1 := Lib.hid h1
      have hhx := (HB1.out.block (gx + 1) hgw).trans HHR.out
      obtain ⟨hr0, hr1, hf0, hf1⟩ := two_cells hhx
      have HHX := Lib.hid hhx
      clear hhx h1 hb1
      go_wp2_with fail
      exact end_intn rfl rfl rfl hr0 hr1 (outI_set (z := roundQ q 3) (by rw [HV.out]; exact H1.out.1) (by have := HGX.out; omega) ⟨_, _, HHX.out⟩ (by rw [HV.out]; exact H1.out.2) (HBW.out.trans (HB1.out.mono HSZ.out)) (by omega))
    · have HV : Hid (roundQ q way = nearQ q) := by show _ = _; unfold roundQ; rw [if_neg h1, if_neg h3]
      have hd3 : (way == 3) = false := by simpa using h3
      clear h1 h3
      go_wp2_with fail
      refine (QNEAR_any neg A D n c m d q (by omega) (by omega) _ W.heap.size (Nat.le_refl _) HRW).mono ?_
      rintro e w1 ⟨ng1, A1, n1, c1, rfl, h1, k1, hb1⟩
      have HB1 := Lib.hid hb1
      have H1 := Lib.hid h1
      have hhx := (HB1.out.block (gx + 1) hgw).trans HHR.out
      obtain ⟨hr0, hr1, hf0, hf1⟩ := two_cells hhx
      have HHX := Lib.hid hhx
      clear hhx h1 hb1
      go_wp2_with fail
      exact end_intn rfl rfl rfl hr0 hr1 (outI_set (z := roundQ q way) (by rw [HV.out]; exact H1.out.1) (by have := HGX.out; omega) ⟨_, _, HHX.out⟩ (by rw [HV.out]; exact H1.out.2) (HBW.out.trans (HB1.out.mono HSZ.out)) (by omega))
def posI (z : Int) : Int × Int := if z.natAbs ≤ 10000000000000 then (z, 0) else (0, 1)
set_option maxRecDepth 100000 in
set_option maxHeartbeats 1000000 in
theorem POSITION_any (neg : Bool) (A : Option Addr) (n c : Nat) (z : Int) (w : World) (B : Nat) (hB : B ≤ w.heap.size) (hh : Hid (IntAt w B neg A n c z)) :
    Calls Tryz.prog 60 #[.agg #[.bool neg, .slice A n c]] w fun e w' => e = .returned (.tuple #[.int .i64 (posI z).1, .int .i64 (posI z).2]) ∧ Below w.heap.size w w' := by
  obtain ⟨W, gx, hW, hgx, HHW, HBW, HSW⟩ := cell_new w 82 #[.bool neg, .slice A n c]
  have hc0 := own_cell1 HHW.out 0
  have hc1 := own_cell1 HHW.out 1
  simp only [List.getElem?_toArray, List.getElem?_cons_zero, List.getElem?_cons_succ] at hc0 hc1
  have HNW : Hid (IntAt W W.heap.size neg A n c z) := hh.out.to HBW.out hB (by have := HSW.out; omega)
  have HSZ := Lib.hid HBW.out.size
  go_enter Tryz.func60, Tryz.ntmps60
  go_upto_region 1 with (fail)
  rw [← hW, ← hgx]
  clear hW hgx HHW
  go_upto_region 2 with (fail)
  refine (ISMALL_any neg A n c z _ W.heap.size (Nat.le_refl _) HNW).mono ?_
  rintro e w1 ⟨rfl, hb1⟩
  have HB1 := Lib.hid (HBW.out.trans (hb1.mono HSZ.out))
  clear hb1 hc0 hc1
  by_cases hs : z.natAbs < 9223372036854775808
  · have he : smallI z = (z, true) := by unfold smallI; rw [if_pos hs]
    rw [he]
    clear he
    have HP : Hid ((decide (-10000000000000 ≤ z) && decide (z ≤ 10000000000000)) = decide (z.natAbs ≤ 10000000000000)) := by
      show _ = _
      rw [← Bool.decide_and]
      exact decide_eq_decide.2 (by omega)
    by_cases hp : z.natAbs ≤ 10000000000000
    · have HV : Hid (posI z = (z, 0)) := by show _ = _; unfold posI; rw [if_pos hp]
      rw [decide_eq_true hp] at HP
      clear hs hp
      go_wp2_with (go_at_call 58; refine (ISPOS_any z _).mono ?_; rintro e w2 ⟨rfl, rfl⟩; rw [HP.out])
      go_ret2
      exact ⟨by rw [HV.out]; rfl, HB1.out⟩
    · have HV : Hid (posI z = (0, 1)) := by show _ = _; unfold posI; rw [if_neg hp]
      rw [decide_eq_false hp] at HP
      clear hs hp
      go_wp2_with (go_at_call 58; refine (ISPOS_any z _).mono ?_; rintro e w2 ⟨rfl, rfl⟩; rw [HP.out])
      go_ret2
      exact ⟨by rw [HV.out]; rfl, HB1.out⟩
  · have he : smallI z = (0, false) := by unfold smallI; rw [if_neg hs]
    have HV : Hid (posI z = (0, 1)) := by show _ = _; unfold posI; rw [if_neg (by omega)]
    rw [he]
    clear he hs
    go_wp2_with fail
    go_ret2
    exact ⟨by rw [HV.out]; rfl, HB1.out⟩
def convS (n frm tr way : Int) : Int × Int := if okPos n = false ∨ okRate frm = false ∨ okRate tr = false then (0, 1) else if okWay way = false then (0, 4) else posI (roundQ (mkRat (n * tr) frm.natAbs) way)
theorem run_field_i1 (ng : Bool) (A : Option Addr) (n c : Nat) (W : World) : (Instr.field 82 (.agg #[.bool ng, .slice A n c]) 1).run Tryz.prog W = .ok (.slice A n c) W := by
  kernel_rfl
set_option maxRecDepth 100000 in
set_option maxHeartbeats 1000000 in
theorem CONVERT_any (n frm tr way : Int) (w : World) :
    Calls Tryz.prog 24 #[.int .i64 n, .int .i64 frm, .int .i64 tr, .int .i64 way] w fun e w' => e = .returned (.tuple #[.int .i64 (convS n frm tr way).1, .int .i64 (convS n frm tr way).2]) ∧ Below w.heap.size w w' := by
  have HV : Hid (convS n frm tr way = if okPos n = false ∨ okRate frm = false ∨ okRate tr = false then (0, 1) else if okWay way = false then (0, 4) else posI (roundQ (mkRat (n * tr) frm.natAbs) way)) := rfl
  obtain ⟨bp, HP⟩ : ∃ b, Hid ((decide (-10000000000000 ≤ n) && decide (n ≤ 10000000000000)) = b) := ⟨_, rfl⟩
  obtain ⟨bf, HF⟩ : ∃ b, Hid ((decide (1 ≤ frm) && decide (frm ≤ 1000000)) = b) := ⟨_, rfl⟩
  obtain ⟨bt, HT⟩ : ∃ b, Hid ((decide (1 ≤ tr) && decide (tr ≤ 1000000)) = b) := ⟨_, rfl⟩
  obtain ⟨bw, HY⟩ : ∃ b, Hid ((decide (1 ≤ way) && decide (way ≤ 3)) = b) := ⟨_, rfl⟩
  rw [show okPos n = bp from HP.out, show okRate frm = bf from HF.out, show okRate tr = bt from HT.out, show okWay way = bw from HY.out] at HV
  cases bp with
  | false =>
    rw [if_pos (by simp)] at HV
    go_enter Tryz.func24, Tryz.ntmps24
    go_wp2_with (first
      | (go_at_call 58; refine (ISPOS_any n _).mono ?_; rintro e w2 ⟨rfl, rfl⟩; rw [HP.out])
      | (go_at_call 39; (with_reducible refine (ISRATE_any frm _).mono ?_); rintro e w2 ⟨rfl, rfl⟩; rw [HF.out])
      | (go_at_call 39; (with_reducible refine (ISRATE_any tr _).mono ?_); rintro e w2 ⟨rfl, rfl⟩; rw [HT.out])
      | (go_at_call 59; refine (ISWAY_any way _).mono ?_; rintro e w2 ⟨rfl, rfl⟩; rw [HY.out]))
    go_ret2
    exact ⟨by rw [HV.out]; rfl, Below.refl _ _⟩
  | true =>
  cases bf with
  | false =>
    rw [if_pos (by simp)] at HV
    go_enter Tryz.func24, Tryz.ntmps24
    go_wp2_with (first
      | (go_at_call 58; refine (ISPOS_any n _).mono ?_; rintro e w2 ⟨rfl, rfl⟩; rw [HP.out])
      | (go_at_call 39; (with_reducible refine (ISRATE_any frm _).mono ?_); rintro e w2 ⟨rfl, rfl⟩; rw [HF.out])
      | (go_at_call 39; (with_reducible refine (ISRATE_any tr _).mono ?_); rintro e w2 ⟨rfl, rfl⟩; rw [HT.out])
      | (go_at_call 59; refine (ISWAY_any way _).mono ?_; rintro e w2 ⟨rfl, rfl⟩; rw [HY.out]))
    go_ret2
    exact ⟨by rw [HV.out]; rfl, Below.refl _ _⟩
  | true =>
  cases bt with
  | false =>
    rw [if_pos (by simp)] at HV
    go_enter Tryz.func24, Tryz.ntmps24
    go_wp2_with (first
      | (go_at_call 58; refine (ISPOS_any n _).mono ?_; rintro e w2 ⟨rfl, rfl⟩; rw [HP.out])
      | (go_at_call 39; (with_reducible refine (ISRATE_any frm _).mono ?_); rintro e w2 ⟨rfl, rfl⟩; rw [HF.out])
      | (go_at_call 39; (with_reducible refine (ISRATE_any tr _).mono ?_); rintro e w2 ⟨rfl, rfl⟩; rw [HT.out])
      | (go_at_call 59; refine (ISWAY_any way _).mono ?_; rintro e w2 ⟨rfl, rfl⟩; rw [HY.out]))
    go_ret2
    exact ⟨by rw [HV.out]; rfl, Below.refl _ _⟩
  | true =>
  rw [if_neg (by simp)] at HV
  cases bw with
  | false =>
    rw [if_pos (by simp)] at HV
    go_enter Tryz.func24, Tryz.ntmps24
    go_wp2_with (first
      | (go_at_call 58; refine (ISPOS_any n _).mono ?_; rintro e w2 ⟨rfl, rfl⟩; rw [HP.out])
      | (go_at_call 39; (with_reducible refine (ISRATE_any frm _).mono ?_); rintro e w2 ⟨rfl, rfl⟩; rw [HF.out])
      | (go_at_call 39; (with_reducible refine (ISRATE_any tr _).mono ?_); rintro e w2 ⟨rfl, rfl⟩; rw [HT.out])
      | (go_at_call 59; refine (ISWAY_any way _).mono ?_; rintro e w2 ⟨rfl, rfl⟩; rw [HY.out]))
    go_ret2
    exact ⟨by rw [HV.out]; rfl, Below.refl _ _⟩
  | true =>
  rw [if_neg (by simp)] at HV
  obtain ⟨p1, p2⟩ := okPos_le HP.out
  obtain ⟨f1, f2⟩ := okRate_le HF.out
  obtain ⟨t1, t2⟩ := okRate_le HT.out
  have hfn : 0 < frm.natAbs := by omega
  go_enter Tryz.func24, Tryz.ntmps24
  go_upto_region 7 with (first
    | (go_at_call 58; refine (ISPOS_any n _).mono ?_; rintro e w2 ⟨rfl, rfl⟩; rw [HP.out])
    | (go_at_call 39; (with_reducible refine (ISRATE_any frm _).mono ?_); rintro e w2 ⟨rfl, rfl⟩; rw [HF.out])
    | (go_at_call 39; (with_reducible refine (ISRATE_any tr _).mono ?_); rintro e w2 ⟨rfl, rfl⟩; rw [HT.out])
    | (go_at_call 59; refine (ISWAY_any way _).mono ?_; rintro e w2 ⟨rfl, rfl⟩; rw [HY.out]))
  go_wp2_with (fail)
  refine (IOF_any n (by omega) (by omega) _).mono ?_
  rintro e w1 ⟨ng1, A1, n1, c1, rfl, h1, k1, hb1⟩
  have H1 := Lib.hid h1
  have HB1 := Lib.hid hb1
  clear h1 hb1
  go_wp2_with (fail)
  refine (IOF_any tr (by omega) (by omega) _).mono ?_
  rintro e w2 ⟨ng2, A2, n2, c2, rfl, h2, k2, hb2⟩
  have H2 := Lib.hid h2
  have HB2 := Lib.hid (HB1.out.trans (hb2.mono HB1.out.size))
  have H1' := Lib.hid (H1.out.to hb2 (Nat.le_refl _) hb2.size)
  clear h2 hb2
  go_wp2_with (fail)
  refine (IMUL_any ng1 ng2 A1 A2 n1 c1 n2 c2 n tr (by omega) (by omega) _ w2.heap.size (Nat.le_refl _) H1' H2).mono ?_
  rintro e w3 ⟨ng3, A3, n3, c3, rfl, h3, k3, hb3⟩
  have H3 := Lib.hid h3
  have HB3 := Lib.hid (HB2.out.trans (hb3.mono HB2.out.size))
  clear h3 hb3
  go_wp2_with (fail)
  refine (IOF_any frm (by omega) (by omega) _).mono ?_
  rintro e w4 ⟨ng4, A4, n4, c4, rfl, h4, k4, hb4⟩
  have H4 := Lib.hid h4.2
  have HB4 := Lib.hid (HB3.out.trans (hb4.mono HB3.out.size))
  have H3' := Lib.hid (H3.out.to hb4 (Nat.le_refl _) hb4.size)
  clear h4 hb4
  have hfd := run_field_i1 ng4 A4 n4 c4
  go_wp2_with (fail)
  refine (QOVER_any ng3 A3 A4 n3 c3 n4 c4 frm.natAbs (n * tr) (by omega) (by omega) hfn _ w4.heap.size (Nat.le_refl _) H3' H4).mono ?_
  rintro e w5 ⟨ng5, A5, n5, c5, D5, m5, d5, rfl, h5, k5, l5, hb5⟩
  have H5 := Lib.hid h5
  have HB5 := Lib.hid (HB4.out.trans (hb5.mono HB4.out.size))
  clear h5 hb5
  go_wp2_with (fail)
  refine (CROUND_any ng5 A5 D5 n5 c5 m5 d5 _ way (by omega) (by omega) _ w5.heap.size (Nat.le_refl _) H5).mono ?_
  rintro e w6 ⟨ng6, A6, n6, c6, rfl, h6, k6, hb6⟩
  have H6 := Lib.hid h6
  have HB6 := Lib.hid (HB5.out.trans (hb6.mono HB5.out.size))
  clear h6 hb6
  go_wp2_with (fail)
  refine (POSITION_any ng6 A6 n6 c6 _ _ w6.heap.size (Nat.le_refl _) H6).mono ?_
  rintro e w7 ⟨rfl, hb7⟩
  have HB7 := Lib.hid (HB6.out.trans (hb7.mono HB6.out.size))
  rw [← HV.out]
  clear hb7
  go_wp2_with (fail)
  go_ret2
  exact ⟨rfl, HB7.out⟩
end Go.Proofs.YtkmcohnhanphdaaGreatDoor
