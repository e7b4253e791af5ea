/- The document's Convert. -/
import Derived.Test.YthjmhdnamhifjaaGreatDoorYs
import Derived.Test.YthjmhdnamhifjaaGreatDoorAwk
set_option linter.unusedSimpArgs false
set_option linter.unusedVariables false
namespace Go.Proofs.YthjmhdnamhifjaaGreatDoor
open Go.RowKit Go.Dw Go.Joins
theorem conv_rat (n tr frm : Int) (h : 0 < frm) : ((n : Rat) * (tr : Rat)) / (frm : Rat) = mkRat (n * tr) frm.natAbs := by
  rw [frac_pos _ _ h, Rat.intCast_mul]
theorem pos_rnd (q : Rat) (way : Int) : posI (roundQ q way) = if (rndR q way 10000000000000).2 = true then ((rndR q way 10000000000000).1, 0) else (0, 1) := by
  unfold posI rndR
  by_cases h : (roundQ q way).natAbs ≤ 10000000000000
  · rw [if_pos h, if_pos h]; rfl
  · rw [if_neg h, if_neg h]; rfl
set_option maxRecDepth 100000 in
set_option maxHeartbeats 1000000 in
theorem RCONVERT_any (n frm tr way : Int) (w : World) (ht : Hid (TabAt w)) :
    Calls Tryz.prog 46 #[.int .i64 n, .int .i64 frm, .int .i64 tr, .int .i64 way] w fun e w' => e = .returned (.tuple #[.int .i64 (convS n frm tr way).1, .int .i64 (convS n frm tr way).2]) ∧ Below w.heap.size w w' := by
  have HV : Hid (convS n frm tr way = if okPos n = false ∨ okRate frm = false ∨ okRate tr = false then (0, 1) else if okWay way = false then (0, 4) else posI (roundQ (mkRat (n * tr) frm.natAbs) way)) := rfl
  obtain ⟨bp, HP⟩ : ∃ b, Hid ((decide (-10000000000000 ≤ n) && decide (n ≤ 10000000000000)) = b) := ⟨_, rfl⟩
  obtain ⟨bf, HF⟩ : ∃ b, Hid ((decide (1 ≤ frm) && decide (frm ≤ 1000000)) = b) := ⟨_, rfl⟩
  obtain ⟨bt, HT⟩ : ∃ b, Hid ((decide (1 ≤ tr) && decide (tr ≤ 1000000)) = b) := ⟨_, rfl⟩
  obtain ⟨bw, HY⟩ : ∃ b, Hid ((decide (1 ≤ way) && decide (way ≤ 3)) = b) := ⟨_, rfl⟩
  rw [show okPos n = bp from HP.out, show okRate frm = bf from HF.out, show okRate tr = bt from HT.out, show okWay way = bw from HY.out] at HV
  cases bp with
  | false =>
    rw [if_pos (by simp)] at HV
    go_enter Tryz.func46, Tryz.ntmps46
    go_wp2_with (first
      | (go_at_call 41; refine (RPOSITION_any n _).mono ?_; rintro e w2 ⟨rfl, rfl⟩; rw [HP.out])
      | (go_at_call 45; (with_reducible refine (RISRATE_any frm _).mono ?_); rintro e w2 ⟨rfl, rfl⟩; rw [HF.out])
      | (go_at_call 45; (with_reducible refine (RISRATE_any tr _).mono ?_); rintro e w2 ⟨rfl, rfl⟩; rw [HT.out])
      | (go_at_call 52; refine (RWAY_any way _).mono ?_; rintro e w2 ⟨rfl, rfl⟩; rw [HY.out]))
    go_ret2
    exact ⟨by rw [HV.out]; rfl, Below.refl _ _⟩
  | true =>
  cases bf with
  | false =>
    rw [if_pos (by simp)] at HV
    go_enter Tryz.func46, Tryz.ntmps46
    go_wp2_with (first
      | (go_at_call 41; refine (RPOSITION_any n _).mono ?_; rintro e w2 ⟨rfl, rfl⟩; rw [HP.out])
      | (go_at_call 45; (with_reducible refine (RISRATE_any frm _).mono ?_); rintro e w2 ⟨rfl, rfl⟩; rw [HF.out])
      | (go_at_call 45; (with_reducible refine (RISRATE_any tr _).mono ?_); rintro e w2 ⟨rfl, rfl⟩; rw [HT.out])
      | (go_at_call 52; refine (RWAY_any way _).mono ?_; rintro e w2 ⟨rfl, rfl⟩; rw [HY.out]))
    go_ret2
    exact ⟨by rw [HV.out]; rfl, Below.refl _ _⟩
  | true =>
  cases bt with
  | false =>
    rw [if_pos (by simp)] at HV
    go_enter Tryz.func46, Tryz.ntmps46
    go_wp2_with (first
      | (go_at_call 41; refine (RPOSITION_any n _).mono ?_; rintro e w2 ⟨rfl, rfl⟩; rw [HP.out])
      | (go_at_call 45; (with_reducible refine (RISRATE_any frm _).mono ?_); rintro e w2 ⟨rfl, rfl⟩; rw [HF.out])
      | (go_at_call 45; (with_reducible refine (RISRATE_any tr _).mono ?_); rintro e w2 ⟨rfl, rfl⟩; rw [HT.out])
      | (go_at_call 52; refine (RWAY_any way _).mono ?_; rintro e w2 ⟨rfl, rfl⟩; rw [HY.out]))
    go_ret2
    exact ⟨by rw [HV.out]; rfl, Below.refl _ _⟩
  | true =>
  rw [if_neg (by simp)] at HV
  cases bw with
  | false =>
    rw [if_pos (by simp)] at HV
    go_enter Tryz.func46, Tryz.ntmps46
    go_wp2_with (first
      | (go_at_call 41; refine (RPOSITION_any n _).mono ?_; rintro e w2 ⟨rfl, rfl⟩; rw [HP.out])
      | (go_at_call 45; (with_reducible refine (RISRATE_any frm _).mono ?_); rintro e w2 ⟨rfl, rfl⟩; rw [HF.out])
      | (go_at_call 45; (with_reducible refine (RISRATE_any tr _).mono ?_); rintro e w2 ⟨rfl, rfl⟩; rw [HT.out])
      | (go_at_call 52; refine (RWAY_any way _).mono ?_; rintro e w2 ⟨rfl, rfl⟩; rw [HY.out]))
    go_ret2
    exact ⟨by rw [HV.out]; rfl, Below.refl _ _⟩
  | true =>
  rw [if_neg (by simp)] at HV
  obtain ⟨p1, p2⟩ := okPos_le HP.out
  obtain ⟨f1, f2⟩ := okRate_le HF.out
  obtain ⟨t1, t2⟩ := okRate_le HT.out
  have HWAY : Hid (okWay way = true) := HY.out
  have HNZ : Hid ((frm : Rat) ≠ 0) := fun h => by
    have := congrArg Rat.num h
    simp at this
    omega
  have HCR := Lib.hid (conv_rat n tr frm (by omega))
  rw [pos_rnd, ← HCR.out] at HV
  clear HCR
  go_enter Tryz.func46, Tryz.ntmps46
  go_upto_region 5 with (first
    | (go_at_call 41; refine (RPOSITION_any n _).mono ?_; rintro e w2 ⟨rfl, rfl⟩; rw [HP.out])
    | (go_at_call 45; (with_reducible refine (RISRATE_any frm _).mono ?_); rintro e w2 ⟨rfl, rfl⟩; rw [HF.out])
    | (go_at_call 45; (with_reducible refine (RISRATE_any tr _).mono ?_); rintro e w2 ⟨rfl, rfl⟩; rw [HT.out])
    | (go_at_call 52; refine (RWAY_any way _).mono ?_; rintro e w2 ⟨rfl, rfl⟩; rw [HY.out]))
  go_wp2_with (fail)
  refine (RINT_any n (by omega) (by omega) _ ht).mono ?_
  rintro e w1 ⟨ng1, A1, n1, c1, D1, m1, d1, rfl, h1, k1, l1, hb1⟩
  have H1 := Lib.hid h1
  have HB1 := Lib.hid hb1
  clear h1 hb1
  go_wp2_with (fail)
  refine (RINT_any tr (by omega) (by omega) _ (Lib.hid (ht.out.below HB1.out))).mono ?_
  rintro e w2 ⟨ng2, A2, n2, c2, D2, m2, d2, rfl, h2, k2, l2, hb2⟩
  have H2 := Lib.hid h2
  have HB2 := Lib.hid (HB1.out.trans (hb2.mono HB1.out.size))
  have H1' := Lib.hid (H1.out.to hb2 (Nat.le_refl _) hb2.size)
  clear h2 hb2
  go_wp2_with (fail)
  refine (RNTIMES_any ng1 ng2 A1 A2 D1 D2 n1 c1 m1 d1 n2 c2 m2 d2 _ _ (by omega) (by omega) (by omega) (by omega) _ w2.heap.size (Nat.le_refl _) H1' H2).mono ?_
  rintro e w3 ⟨ng3, A3, n3, c3, D3, m3, d3, rfl, h3, k3, l3, hb3⟩
  have H3 := Lib.hid h3
  have HB3 := Lib.hid (HB2.out.trans (hb3.mono HB2.out.size))
  clear h3 hb3
  go_wp2_with (fail)
  refine (RINT_any frm (by omega) (by omega) _ (Lib.hid (ht.out.below HB3.out))).mono ?_
  rintro e w4 ⟨ng4, A4, n4, c4, D4, m4, d4, rfl, h4, k4, l4, hb4⟩
  have H4 := Lib.hid h4
  have HB4 := Lib.hid (HB3.out.trans (hb4.mono HB3.out.size))
  have H3' := Lib.hid (H3.out.to hb4 (Nat.le_refl _) hb4.size)
  clear h4 hb4
  go_wp2_with (fail)
  refine (ROVER_any ng3 ng4 A3 A4 D3 D4 n3 c3 m3 d3 n4 c4 m4 d4 _ _ (by omega) (by omega) (by omega) (by omega) HNZ.out _ w4.heap.size (Nat.le_refl _) H3' H4).mono ?_
  rintro e w5 ⟨ng5, A5, n5, c5, D5, m5, d5, rfl, h5, k5, l5, hb5⟩
  have H5 := Lib.hid h5
  have HB5 := Lib.hid (HB4.out.trans (hb5.mono HB4.out.size))
  clear h5 hb5
  obtain ⟨q, hq⟩ : ∃ q, ((n : Rat) * (tr : Rat)) / (frm : Rat) = q := ⟨_, rfl⟩
  rw [hq] at H5 HV
  clear hq
  go_wp2_with (fail)
  refine (RROUND_any ng5 A5 D5 n5 c5 m5 d5 q way 10000000000000 (by omega) HWAY.out (by omega) (by omega) _ (Lib.hid (ht.out.below HB5.out)) w5.heap.size (Nat.le_refl _) H5).mono ?_
  rintro e w6 ⟨rfl, hb6⟩
  have HB6 := Lib.hid (HB5.out.trans (hb6.mono HB5.out.size))
  clear hb6
  obtain ⟨⟨z, b⟩, hz⟩ : ∃ p, rndR q way 10000000000000 = p := ⟨_, rfl⟩
  rw [hz] at HV ⊢
  clear hz
  dsimp only at HV ⊢
  cases b with
  | true =>
    rw [if_pos rfl] at HV
    go_wp2_with (fail)
    go_ret2
    exact ⟨by rw [HV.out]; rfl, HB6.out⟩
  | false =>
    rw [if_neg (by simp)] at HV
    go_wp2_with (fail)
    go_ret2
    exact ⟨by rw [HV.out]; rfl, HB6.out⟩
end Go.Proofs.YthjmhdnamhifjaaGreatDoor
