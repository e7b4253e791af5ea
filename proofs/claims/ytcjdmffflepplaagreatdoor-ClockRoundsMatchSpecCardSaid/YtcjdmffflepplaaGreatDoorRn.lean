/- The document's numbers: round. -/
import Derived.Test.YtcjdmffflepplaaGreatDoorRf
import Derived.Test.YtcjdmffflepplaaGreatDoorRl
import Derived.Test.YtcjdmffflepplaaGreatDoorLrp
set_option linter.unusedSimpArgs false
set_option linter.unusedVariables false
namespace Go.Proofs.YtcjdmffflepplaaGreatDoor
open Go.RowKit Go.Dw
def upR (q : Rat) (way : Int) : Bool := if way = 1 then decide (q.num < 0) && decide (0 < q.num.natAbs % q.den) else if way = 3 then !decide (q.num < 0) && decide (0 < q.num.natAbs % q.den) else decide (q.den ≤ q.num.natAbs % q.den + q.num.natAbs % q.den)
def absR (q : Rat) (way : Int) : Nat := q.num.natAbs / q.den + (if upR q way then 1 else 0)
theorem upR_1 (q : Rat) : upR q 1 = (decide (q.num < 0) && decide (0 < q.num.natAbs % q.den)) := by simp [upR]
theorem upR_2 (q : Rat) : upR q 2 = decide (q.den ≤ q.num.natAbs % q.den + q.num.natAbs % q.den) := by simp [upR]
theorem upR_3 (q : Rat) : upR q 3 = (!decide (q.num < 0) && decide (0 < q.num.natAbs % q.den)) := by simp [upR]
theorem near_up (N D : Nat) (hD : 0 < D) : (N * 2 + D) / (D * 2) = N / D + (if D ≤ N % D + N % D then 1 else 0) := by
  rcases near_mod N D hD with h | ⟨h, _⟩
  all_goals rw [h]
  all_goals
    have h1 := Nat.div_add_mod N D
    have h2 := Nat.mod_lt N hD
    have h3 := Nat.div_add_mod (N * 2 + D) (D * 2)
    have h4 := Nat.mod_lt (N * 2 + D) (show 0 < D * 2 by omega)
    rw [h] at h3
    generalize N / D = k at *
    generalize N % D = r at *
    generalize (N * 2 + D) % (D * 2) = s at *
  · have e : D * 2 * k = 2 * (D * k) := by rw [Nat.mul_comm D 2, Nat.mul_assoc]
    rw [e] at h3
    split
    · omega
    · rfl
  · have e : D * 2 * (k + 1) = 2 * (D * k) + 2 * D := by rw [Nat.mul_comm D 2, Nat.mul_assoc, Nat.mul_add, Nat.mul_add, Nat.mul_one]
    rw [e] at h3
    split
    · rfl
    · omega
theorem abs_round (q : Rat) (way : Int) (hw : okWay way = true) : (roundQ q way).natAbs = absR q way := by
  have hD := q.den_pos
  have h3 : way = 1 ∨ way = 2 ∨ way = 3 := by unfold okWay at hw; simp at hw; omega
  rcases h3 with rfl | rfl | rfl
  · show (q.floor).natAbs = _
    unfold absR
    rw [upR_1]
    by_cases h : q.num < 0
    · rw [floor_neg h, decide_eq_true h, Int.natAbs_neg, Int.natAbs_natCast]
      simp
    · rw [floor_pos h, decide_eq_false h, Int.natAbs_natCast]
      simp
  · show (nearQ q).natAbs = _
    unfold absR
    rw [upR_2]
    have h1 := near_up q.num.natAbs q.den hD
    have h2 : (nearQ q).natAbs = (q.num.natAbs * 2 + q.den) / (q.den * 2) := by
      unfold nearQ
      by_cases h : q.num < 0
      · rw [if_pos h, Int.natAbs_neg, Int.natAbs_natCast]
      · rw [if_neg h, Int.natAbs_natCast]
    rw [h2, h1]
    simp
  · show (q.ceil).natAbs = _
    unfold absR
    rw [upR_3]
    by_cases h : q.num < 0
    · rw [ceil_neg' (by omega), decide_eq_true h, Int.natAbs_neg, Int.natAbs_natCast]
      simp
    · rw [decide_eq_false h]
      by_cases h0 : 0 < q.num
      · rw [ceil_pos' h0, Int.natAbs_natCast]
        simp
      · have hz : q.num = 0 := by omega
        rw [ceil_neg' h0, Int.natAbs_neg, Int.natAbs_natCast, hz]
        simp
theorem round_sign (q : Rat) (way : Int) (hw : okWay way = true) : roundQ q way = sgnZ (decide (q.num < 0)) (roundQ q way).natAbs := by
  have h3 : way = 1 ∨ way = 2 ∨ way = 3 := by unfold okWay at hw; simp at hw; omega
  have hs : (q.num < 0 → roundQ q way ≤ 0) ∧ (¬ q.num < 0 → 0 ≤ roundQ q way) := by
    rcases h3 with rfl | rfl | rfl
    · refine ⟨fun h => ?_, fun h => ?_⟩
      · show q.floor ≤ 0; rw [floor_neg h]; exact Int.neg_nonpos_of_nonneg (Int.natCast_nonneg _)
      · show 0 ≤ q.floor; rw [floor_pos h]; exact Int.natCast_nonneg _
    · refine ⟨fun h => ?_, fun h => ?_⟩
      · show nearQ q ≤ 0; unfold nearQ; rw [if_pos h]; exact Int.neg_nonpos_of_nonneg (Int.natCast_nonneg _)
      · show 0 ≤ nearQ q; unfold nearQ; rw [if_neg h]; exact Int.natCast_nonneg _
    · refine ⟨fun h => ?_, fun h => ?_⟩
      · show q.ceil ≤ 0; rw [ceil_neg' (by omega)]; exact Int.neg_nonpos_of_nonneg (Int.natCast_nonneg _)
      · show 0 ≤ q.ceil
        by_cases h0 : 0 < q.num
        · rw [ceil_pos' h0]; exact Int.natCast_nonneg _
        · have hz : q.num = 0 := by omega
          rw [ceil_neg' h0, hz]; simp
  unfold sgnZ
  by_cases h : q.num < 0
  · have := hs.1 h
    rw [decide_eq_true h, if_pos rfl]; omega
  · have := hs.2 h
    rw [decide_eq_false h, if_neg (by simp)]; omega
set_option maxRecDepth 100000 in
set_option maxHeartbeats 4000000 in
theorem RROUNDU_any (neg : Bool) (A D : Option Addr) (n c m d : Nat) (q : Rat) (way : Int) (hw : okWay way = true) (hn : n ≤ 10000000) (hm : m ≤ 10000000) (w : World) (B : Nat) (hB : B ≤ w.heap.size) (hh : Hid (NumR w B neg A n c D m d q)) :
    Calls Tryz.prog 50 #[.agg #[.bool neg, .slice A n c, .slice D m d], .int .i64 way] w (OutL w (absR q way) (max n 1 + 1)) := by
  obtain ⟨W, gx, hW, hgx, HHW, HBW, HSW⟩ := rcell_new w 55 #[.bool neg, .slice A n c, .slice D m d]
  have HGX := Lib.hid hgx
  obtain ⟨x0, x1, x2, _, _, _⟩ := three_cells HHW.out
  have hgw := blk_lt HHW.out
  have HRW := Lib.hid (hh.out.to HBW.out hB (by have := HSW.out; omega))
  have HNEG := Lib.hid hh.out.1
  clear hh
  have h3 : way = 1 ∨ way = 2 ∨ way = 3 := by unfold okWay at hw; simp at hw; omega
  clear hw
  go_enter Tryz.func50, Tryz.ntmps50
  go_upto_region 1 with (fail)
  rw [← hW, ← hgx]
  clear hW hgx HHW HSW
  go_wp2_with fail
  refine (RDIVIDE_any A D n c _ m d _ (by omega) (by omega) q.den_pos _ W.heap.size (Nat.le_refl _) (Lib.hid HRW.out.2.1) (Lib.hid HRW.out.2.2)).mono ?_
  rintro e w1 ⟨A1, n1, c1, A2, n2, c2, rfl, h1, h2, k1, k2, hb1⟩
  have H1 := Lib.hid h1
  have H2 := Lib.hid h2
  have HPOS := Lib.hid (h2.pos_iff (by omega))
  have HB1 := Lib.hid (HBW.out.trans (hb1.mono HBW.out.size))
  have HD := Lib.hid (HRW.out.2.2.to hb1 (Nat.le_refl _) hb1.size)
  obtain ⟨x0, x1, x2⟩ := three_keep (And.intro x0 (And.intro x1 x2)) hb1 (by dsimp only; omega) (by dsimp only; omega) (by dsimp only; omega)
  have hgw := Nat.lt_of_lt_of_le hgw hb1.size
  clear h1 h2 hb1
  obtain ⟨wz, rfl⟩ : ∃ wz : World, wz = w1 := ⟨_, rfl⟩
  rcases h3 with rfl | rfl | rfl
  · have HZ1 := H1
    have HBZ := HB1
    cases neg with
    | false =>
      have HV : Hid (absR q 1 = q.num.natAbs / q.den) := by show _ = _; unfold absR; rw [upR_1, ← HNEG.out]; simp
      go_wp2_with fail
      go_ret
      exact ⟨_, _, _, rfl, by rw [HV.out]; exact HZ1.out, by omega, HBZ.out⟩
    | true =>
      by_cases hr : 0 < n2
      · have hr9 : (0 : Int) < (n2 : Int) := by omega
        have HV : Hid (absR q 1 = q.num.natAbs / q.den + 1) := by show _ = _; unfold absR; rw [upR_1, ← HNEG.out, decide_eq_true (HPOS.out.1 hr)]; rfl
        go_wp2_with fail
        have hb9 := blk1 wz 1
        obtain ⟨W3, hW3⟩ : ∃ W, W = wz.alloc (.cells #[.int .i64 1] 3) := ⟨_, rfl⟩
        have HB3 : Hid (Below wz.heap.size wz W3) := by show Below _ _ _; rw [hW3]; exact (Below.refl _ _).alloc (Nat.le_refl _) _
        have H9 : Hid (LimAt W3 W3.heap.size (some ⟨wz.heap.size, 0, none⟩) 1 1 1) := by
          have hb8 : BlkN .i64 3 W3 wz.heap.size [1] := by rw [hW3]; exact hb9
          exact ⟨by omega, by simp [maxLen], [1], ⟨DigN.cons (by omega) (DigN.nil _), by simp⟩, by simp [valB], hb8.row hb8.lt⟩
        rw [← hW3]
        clear hW3 hb9
        refine (RADD_any A1 _ n1 c1 _ 1 1 1 (by omega) (by omega) _ W3.heap.size (Nat.le_refl _) (Lib.hid (HZ1.out.to HB3.out (Nat.le_refl _) HB3.out.size)) H9).mono ?_
        rintro e w8 ⟨A8, n8, c8, rfl, h8, k8, hb8⟩
        have H8 := Lib.hid h8
        have HB8 := Lib.hid (HBZ.out.trans ((HB3.out.trans (hb8.mono HB3.out.size)).mono HBZ.out.size))
        clear h8 hb8
        go_wp2_with fail
        go_ret
        exact ⟨_, _, _, rfl, by rw [HV.out]; exact H8.out, by omega, HB8.out⟩
      · have hr9 : ¬ (0 : Int) < (n2 : Int) := by omega
        have HV : Hid (absR q 1 = q.num.natAbs / q.den) := by show _ = _; unfold absR; rw [upR_1, ← HNEG.out, decide_eq_false (fun h => hr (HPOS.out.2 h))]; rfl
        go_wp2_with fail
        go_ret
        exact ⟨_, _, _, rfl, by rw [HV.out]; exact HZ1.out, by omega, HBZ.out⟩
  · obtain ⟨kc, hkc⟩ : ∃ kc, cmpN (q.num.natAbs % q.den + q.num.natAbs % q.den) q.den = kc := ⟨_, rfl⟩
    have HKC := Lib.hid hkc
    clear hkc
    have HVV : Hid (absR q 2 = q.num.natAbs / q.den + (if q.den ≤ q.num.natAbs % q.den + q.num.natAbs % q.den then 1 else 0)) := by
      show _ = _; unfold absR; rw [upR_2]; simp
    have hw2 : ((2 : Int) == 1) = false := rfl
    go_upto_region 9 with (fail)
    obtain ⟨W, rfl⟩ : ∃ Wx : World, Wx = wz := ⟨_, rfl⟩
    have HBZ0 := Lib.hid HB1.out
    have HBZS := Lib.hid HB1.out.size
    clear HB1
    obtain ⟨W, rfl⟩ : ∃ Wx : World, Wx = W := ⟨_, rfl⟩
    refine wp_region_text 8 (fun x => x.cell? ⟨gx, 0, none⟩ = some (.bool neg) ∧ x.cell? ⟨gx, 1, none⟩ = some (.slice A n c) ∧ x.cell? ⟨gx, 2, none⟩ = some (.slice D m d)) (by kernel_rfl) (by kernel_rfl) ?_
    have hS : W.drew.cell? ⟨gx, 0, none⟩ = some (.bool neg) ∧ W.drew.cell? ⟨gx, 1, none⟩ = some (.slice A n c) ∧ W.drew.cell? ⟨gx, 2, none⟩ = some (.slice D m d) := ⟨x0, x1, x2⟩
    have hS0 := And.intro x0 (And.intro x1 x2)
    refine HT.take (i := 0) (oi := _) (v := ?_) rfl (by kernel_rfl) (by kernel_rfl) (by decide) (fun _ _ _ h => h) (Or.inl ⟨by rfl, ?_⟩) hS ?_
    rotate_left
    · intro wz
      go_simp
      try with_reducible rfl
    simp only [List.getElem_toArray, List.getElem_cons_succ, List.getElem_cons_zero, Act.put, List.setIfInBounds_toArray, List.set_cons_zero, List.set_cons_succ]
    refine HT.take (i := 1) (oi := _) (v := ?_) rfl (by kernel_rfl) (by kernel_rfl) (by decide) (fun _ _ _ h => h) (Or.inl ⟨by rfl, ?_⟩) hS ?_
    rotate_left
    · intro wz
      go_simp
      try with_reducible rfl
    simp only [List.getElem_toArray, List.getElem_cons_succ, List.getElem_cons_zero, Act.put, List.setIfInBounds_toArray, List.set_cons_zero, List.set_cons_succ]
    refine HT.take (i := 3) (oi := _) (v := ?_) rfl (by kernel_rfl) (by kernel_rfl) (by decide) (fun _ _ _ h => h) (Or.inl ⟨by rfl, ?_⟩) hS ?_
    rotate_left
    · intro wz
      go_simp
      try with_reducible rfl
    simp only [List.getElem_toArray, List.getElem_cons_succ, List.getElem_cons_zero, Act.put, List.setIfInBounds_toArray, List.set_cons_zero, List.set_cons_succ]
    refine HT.load (i := 4) (oi := _) (v := ?_) rfl (by kernel_rfl) (by kernel_rfl) (by decide) (fun _ _ _ h => h) (by kernel_rfl) (Or.inl ⟨by rfl, ?_⟩) hS ?_
    rotate_left
    · intro wz hwz
      try dsimp only at hwz
      go_simp
      try with_reducible rfl
    simp only [List.getElem_toArray, List.getElem_cons_succ, List.getElem_cons_zero, Act.put, List.setIfInBounds_toArray, List.set_cons_zero, List.set_cons_succ]
    refine HT.one (i := 2) (o := _) rfl (by kernel_rfl) (by decide) (by rfl) ?_
    intro K hK
    go_simp
    refine (RADD_any A2 A2 n2 c2 _ n2 c2 _ (by omega) (by omega) _ W.heap.size (by exact Nat.le_refl _) (by exact H2) (by exact H2)).mono ?_
    rintro e w1 ⟨A4, n4, c4, rfl, h1, k4, hb1⟩
    replace hb1 : Below W.heap.size W w1 := below_undrew hb1
    have H4 := Lib.hid h1
    have HB1 := Lib.hid hb1
    clear h1 hb1
    refine hK.out _ _ (three_keep hS0 HB1.out (by dsimp only; omega) (by dsimp only; omega) (by dsimp only; omega)) ?_
    clear hK K hS
    have hS := three_keep hS0 HB1.out (by dsimp only; omega) (by dsimp only; omega) (by dsimp only; omega)
    try simp only [List.getElem_toArray, List.getElem_cons_succ, List.getElem_cons_zero, Act.put, List.setIfInBounds_toArray, List.set_cons_zero, List.set_cons_succ]
    refine HT.one (i := 5) (o := _) rfl (by kernel_rfl) (by decide) (by rfl) ?_
    intro K hK
    go_simp
    refine (RCMP_any A4 D n4 c4 _ m d _ _ w1.heap.size H4 (by exact Lib.hid (HD.out.to HB1.out (Nat.le_refl _) HB1.out.size))).mono ?_
    rintro e w2 ⟨rfl, hb2⟩
    rw [HKC.out]
    have HB2 := Lib.hid (HB1.out.trans (hb2.mono HB1.out.size))
    clear hb2
    refine hK.out _ _ (three_keep hS0 HB2.out (by dsimp only; omega) (by dsimp only; omega) (by dsimp only; omega)) ?_
    clear hK K hS
    have hS := three_keep hS0 HB2.out (by dsimp only; omega) (by dsimp only; omega) (by dsimp only; omega)
    try simp only [List.getElem_toArray, List.getElem_cons_succ, List.getElem_cons_zero, Act.put, List.setIfInBounds_toArray, List.set_cons_zero, List.set_cons_succ]
    refine HT.take (i := 6) (oi := _) (v := ?_) rfl (by kernel_rfl) (by kernel_rfl) (by decide) (fun _ _ _ h => h) (Or.inl ⟨by rfl, ?_⟩) hS ?_
    rotate_left
    · intro wz
      go_simp
      try with_reducible rfl
    simp only [List.getElem_toArray, List.getElem_cons_succ, List.getElem_cons_zero, Act.put, List.setIfInBounds_toArray, List.set_cons_zero, List.set_cons_succ]
    refine HT.take (i := 7) (oi := _) (v := ?_) rfl (by kernel_rfl) (by kernel_rfl) (by decide) (fun _ _ _ h => h) (Or.inl ⟨by rfl, ?_⟩) hS ?_
    rotate_left
    · intro wz
      go_simp
      try with_reducible rfl
    simp only [List.getElem_toArray, List.getElem_cons_succ, List.getElem_cons_zero, Act.put, List.setIfInBounds_toArray, List.set_cons_zero, List.set_cons_succ]
    obtain ⟨z0, _⟩ := hS
    have hS := z0
    refine HT.done (by kernel_rfl) ?_
    clear hS
    simp only [List.drop_succ_cons, List.drop_zero]
    have HZ1 := Lib.hid (H1.out.to HB2.out (Nat.le_refl _) HB2.out.size)
    have HBZ := Lib.hid (HBZ0.out.trans (HB2.out.mono HBZS.out))
    clear hS0 H1 H2 HB1 HB2 x0 x1 x2
    obtain ⟨wz, rfl⟩ : ∃ wz : World, wz = w2 := ⟨_, rfl⟩
    by_cases hle : q.den ≤ q.num.natAbs % q.den + q.num.natAbs % q.den
    · have hk9 : 0 ≤ kc := by rw [← HKC.out]; unfold cmpN; rw [if_neg (by omega)]; split <;> omega
      have HV : Hid (absR q 2 = q.num.natAbs / q.den + 1) := by show _ = _; rw [HVV.out, if_pos hle]
      clear hle
      go_wp2_with fail
      have hb9 := blk1 wz 1
      obtain ⟨W3, hW3⟩ : ∃ W, W = wz.alloc (.cells #[.int .i64 1] 3) := ⟨_, rfl⟩
      have HB3 : Hid (Below wz.heap.size wz W3) := by show Below _ _ _; rw [hW3]; exact (Below.refl _ _).alloc (Nat.le_refl _) _
      have H9 : Hid (LimAt W3 W3.heap.size (some ⟨wz.heap.size, 0, none⟩) 1 1 1) := by
        have hb8 : BlkN .i64 3 W3 wz.heap.size [1] := by rw [hW3]; exact hb9
        exact ⟨by omega, by simp [maxLen], [1], ⟨DigN.cons (by omega) (DigN.nil _), by simp⟩, by simp [valB], hb8.row hb8.lt⟩
      rw [← hW3]
      clear hW3 hb9
      refine (RADD_any A1 _ n1 c1 _ 1 1 1 (by omega) (by omega) _ W3.heap.size (Nat.le_refl _) (Lib.hid (HZ1.out.to HB3.out (Nat.le_refl _) HB3.out.size)) H9).mono ?_
      rintro e w8 ⟨A8, n8, c8, rfl, h8, k8, hb8⟩
      have H8 := Lib.hid h8
      have HB8 := Lib.hid (HBZ.out.trans ((HB3.out.trans (hb8.mono HB3.out.size)).mono HBZ.out.size))
      clear h8 hb8
      go_wp2_with fail
      go_ret
      exact ⟨_, _, _, rfl, by rw [HV.out]; exact H8.out, by omega, HB8.out⟩
    · have hk9 : kc < 0 := by rw [← HKC.out]; unfold cmpN; rw [if_pos (by omega)]; omega
      have HV : Hid (absR q 2 = q.num.natAbs / q.den) := by show _ = _; rw [HVV.out, if_neg hle]; rfl
      clear hle
      go_wp2_with fail
      go_ret
      exact ⟨_, _, _, rfl, by rw [HV.out]; exact HZ1.out, by omega, HBZ.out⟩
  · have HZ1 := H1
    have HBZ := HB1
    cases neg with
    | true =>
      have HV : Hid (absR q 3 = q.num.natAbs / q.den) := by show _ = _; unfold absR; rw [upR_3, ← HNEG.out]; simp
      go_wp2_with fail
      go_ret
      exact ⟨_, _, _, rfl, by rw [HV.out]; exact HZ1.out, by omega, HBZ.out⟩
    | false =>
      by_cases hr : 0 < n2
      · have hr9 : (0 : Int) < (n2 : Int) := by omega
        have HV : Hid (absR q 3 = q.num.natAbs / q.den + 1) := by show _ = _; unfold absR; rw [upR_3, ← HNEG.out, decide_eq_true (HPOS.out.1 hr)]; rfl
        go_wp2_with fail
        have hb9 := blk1 wz 1
        obtain ⟨W3, hW3⟩ : ∃ W, W = wz.alloc (.cells #[.int .i64 1] 3) := ⟨_, rfl⟩
        have HB3 : Hid (Below wz.heap.size wz W3) := by show Below _ _ _; rw [hW3]; exact (Below.refl _ _).alloc (Nat.le_refl _) _
        have H9 : Hid (LimAt W3 W3.heap.size (some ⟨wz.heap.size, 0, none⟩) 1 1 1) := by
          have hb8 : BlkN .i64 3 W3 wz.heap.size [1] := by rw [hW3]; exact hb9
          exact ⟨by omega, by simp [maxLen], [1], ⟨DigN.cons (by omega) (DigN.nil _), by simp⟩, by simp [valB], hb8.row hb8.lt⟩
        rw [← hW3]
        clear hW3 hb9
        refine (RADD_any A1 _ n1 c1 _ 1 1 1 (by omega) (by omega) _ W3.heap.size (Nat.le_refl _) (Lib.hid (HZ1.out.to HB3.out (Nat.le_refl _) HB3.out.size)) H9).mono ?_
        rintro e w8 ⟨A8, n8, c8, rfl, h8, k8, hb8⟩
        have H8 := Lib.hid h8
        have HB8 := Lib.hid (HBZ.out.trans ((HB3.out.trans (hb8.mono HB3.out.size)).mono HBZ.out.size))
        clear h8 hb8
        go_wp2_with fail
        go_ret
        exact ⟨_, _, _, rfl, by rw [HV.out]; exact H8.out, by omega, HB8.out⟩
      · have hr9 : ¬ (0 : Int) < (n2 : Int) := by omega
        have HV : Hid (absR q 3 = q.num.natAbs / q.den) := by show _ = _; unfold absR; rw [upR_3, ← HNEG.out, decide_eq_false (fun h => hr (HPOS.out.2 h))]; rfl
        go_wp2_with fail
        go_ret
        exact ⟨_, _, _, rfl, by rw [HV.out]; exact HZ1.out, by omega, HBZ.out⟩
end Go.Proofs.YtcjdmffflepplaaGreatDoor
