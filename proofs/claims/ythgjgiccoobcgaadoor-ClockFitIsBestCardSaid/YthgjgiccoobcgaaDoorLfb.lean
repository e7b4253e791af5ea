/- ClockFitIsBest, walked. -/
import Derived.Test.YthgjgiccoobcgaaDoorSqw
import Derived.Test.YthgjgiccoobcgaaDoorRt
import Derived.Test.YthgjgiccoobcgaaDoorRr
import Derived.Test.YthgjgiccoobcgaaDoorLrp
import Derived.Test.YthgjgiccoobcgaaDoorAwk
set_option linter.unusedSimpArgs false
set_option linter.unusedVariables false
namespace Go.Proofs.YthgjgiccoobcgaaDoor
open Go.RowKit Go.Dw Go.Joins
set_option maxRecDepth 100000 in
set_option maxHeartbeats 8000000 in
theorem lawFb_walk (A : Option Addr) (n c : Nat) (l : List Pr) (num den off : Int) (i1 : -9223372036854775808 ≤ num) (i2 : num ≤ 9223372036854775807) (i3 : -9223372036854775808 ≤ den) (i4 : den ≤ 9223372036854775807) (i5 : -9223372036854775808 ≤ off) (i6 : off ≤ 9223372036854775807) (w : World) (ht : Hid (TabAt w)) (hh : Hid (PrsAt w w.heap.size A n l)) :
    Calls Tryd.prog 4 #[.slice A n c, .int .i64 num, .int .i64 den, .int .i64 off] w fun e w' => e = .returned (.bool true) ∧ Below w.heap.size w w' := by
  obtain ⟨x, hx⟩ : ∃ x, chkP l = x := ⟨_, rfl⟩
  have HX := Lib.hid hx
  by_cases h0 : x = 0
  rotate_left
  · have HL : Hid (lineV (chkP l) l = .tuple #[.agg #[.string ⟨#[]⟩, .string ⟨#[]⟩, .string ⟨#[]⟩, .string ⟨#[]⟩], .int .i64 x]) := by show _ = _; unfold lineV; rw [hx, if_neg h0]
    have hq : (x != 0) = true := by simpa using h0
    clear hx h0
    go_enter Tryd.func4, Tryd.ntmps4
    go_wp2_with (first
      | (go_at_call 11; refine (FIT_any A n c l _ w.heap.size (Nat.le_refl _) hh).mono ?_; rintro e w1 ⟨rfl, hb1⟩; rw [HL.out]; have hh1 := Lib.hid (hh.out.below hb1 (Nat.le_refl _)))
      | (go_at_call 12; refine (CHECKPAIRS_any A n c l _ w.heap.size (by simp; have := hb1.size; omega) (Lib.hid (hh1.out.below ((Below.refl _ _).alloc (Nat.le_refl _) _) hb1.size))).mono ?_; rintro e w2 ⟨rfl, hb2⟩; rw [HX.out])
      | (go_at_call 10; refine (AWAKE_any _).mono ?_; rintro e w5 ⟨rfl, hb5⟩))
    go_ret
    exact ⟨rfl, hb1.trans ((((Below.refl _ _).alloc (Nat.le_refl _) _).trans ((hb2.trans (hb5.mono hb2.size)).mono (by simp))).mono hb1.size)⟩
  subst h0
  have HL : Hid (lineV (chkP l) l = .tuple #[.agg #[.string (txN (fitA l)), .string (txD (fitA l)), .string (txN (fitB l)), .string (txD (fitB l))], .int .i64 0]) := by show _ = _; unfold lineV; rw [hx, if_pos rfl]
  by_cases h1 : den = 0
  · subst h1
    clear hx
    go_enter Tryd.func4, Tryd.ntmps4
    go_wp2_with (first
      | (go_at_call 11; refine (FIT_any A n c l _ w.heap.size (Nat.le_refl _) hh).mono ?_; rintro e w1 ⟨rfl, hb1⟩; rw [HL.out]; have hh1 := Lib.hid (hh.out.below hb1 (Nat.le_refl _)))
      | (go_at_call 12; refine (CHECKPAIRS_any A n c l _ w.heap.size (by simp; have := hb1.size; omega) (Lib.hid (hh1.out.below ((Below.refl _ _).alloc (Nat.le_refl _) _) hb1.size))).mono ?_; rintro e w2 ⟨rfl, hb2⟩; rw [HX.out])
      | (go_at_call 10; refine (AWAKE_any _).mono ?_; rintro e w5 ⟨rfl, hb5⟩))
    go_ret
    exact ⟨rfl, hb1.trans ((((Below.refl _ _).alloc (Nat.le_refl _) _).trans ((hb2.trans (hb5.mono hb2.size)).mono (by simp))).mono hb1.size)⟩
  have hd1 : (den == 0) = false := by simpa using h1
  have HNZ : Hid ((den : Rat) ≠ 0) := fun h => h1 (Rat.intCast_eq_zero_iff.1 h)
  have HCK : Hid (chkP l = 0) := hx
  obtain ⟨sA, sB⟩ := fit_small hx
  have HFA : Hid (fewT (fitA l) 2000 = true) := sA.few (by omega) (by omega)
  have HFB : Hid (fewT (fitB l) 2000 = true) := sB.few (by omega) (by omega)
  obtain ⟨U9, hU9⟩ : ∃ q : Rat, (num : Rat) / (den : Rat) = q := ⟨_, rfl⟩
  obtain ⟨V9, hV9⟩ : ∃ q : Rat, (off : Rat) = q := ⟨_, rfl⟩
  have HSC : Hid (SmQ (fitA l + U9) 30) := by
    rw [← hU9]
    exact (smQ_add sA (smQ_div2 h1 (smQ_i64 i1 i2) (smQ_i64 i3 i4))).le (by omega)
  have HSD : Hid (SmQ (fitB l + V9) 30) := by
    rw [← hV9]
    exact (smQ_add sB (smQ_int (by omega) (smQ_i64 i5 i6))).le (by omega)
  have HSA : Hid (SmQ (fitA l) 30) := sA.le (by omega)
  have HSB : Hid (SmQ (fitB l) 30) := sB.le (by omega)
  have HCP : Hid (cmpQ (sqQ l (fitA l) (fitB l) l.length) (sqQ l (fitA l + U9) (fitB l + V9) l.length) ≤ 0) := cmpQ_le (fit_best (by have := chkP_ok hx; omega) (fit_disc hx) U9 V9)
  have HU9 := Lib.hid hU9
  have HV9 := Lib.hid hV9
  clear hx h1 sA sB hU9 hV9 HX
  go_enter Tryd.func4, Tryd.ntmps4
  go_upto_region 2 with (go_at_call 11; refine (FIT_any A n c l _ w.heap.size (Nat.le_refl _) hh).mono ?_; rintro e w1 ⟨rfl, hb1⟩; rw [HL.out])
  obtain ⟨W1, g9, hW1, hg9, HBL, HBW1, HSW1⟩ := cell_new0 w1 37 #[.string (txN (fitA l)), .string (txD (fitA l)), .string (txN (fitB l)), .string (txD (fitB l))]
  rw [← hW1, ← hg9]
  have HBA := Lib.hid (hb1.trans (HBW1.out.mono hb1.size))
  clear hW1 hg9 HBW1 HSW1 hb1
  obtain ⟨a0, a1, a2, a3, _⟩ := four_cells HBL.out
  have ht1 : Hid (TabAt W1) := ht.out.below HBA.out
  go_wp2_with fail
  refine (ROF_ok (Rt.tx HFA.out) _).mono ?_
  rintro e w2 ⟨ng1, A1, n1, c1, D1, d1, e1, rfl, hH1, k1, m1, hb2⟩
  have H1 := Lib.hid hH1
  have HB2 := Lib.hid hb2
  clear hH1 hb2
  go_wp2_with fail
  refine (RINT_any num (by omega) (by omega) _ (Lib.hid (ht1.out.below HB2.out))).mono ?_
  rintro e w3 ⟨ng2, A2, n2, c2, D2, d2, e2, rfl, hH2, k2, m2, hb3⟩
  have H2 := Lib.hid hH2
  have HB3 := Lib.hid (HB2.out.trans (hb3.mono HB2.out.size))
  have H1a := Lib.hid (H1.out.to hb3 (Nat.le_refl _) hb3.size)
  clear hH2 hb3 H1
  go_wp2_with fail
  refine (RINT_any den (by omega) (by omega) _ (Lib.hid (ht1.out.below HB3.out))).mono ?_
  rintro e w4 ⟨ng3, A3, n3, c3, D3, d3, e3, rfl, hH3, k3, m3, hb4⟩
  have H3 := Lib.hid hH3
  have HB4 := Lib.hid (HB3.out.trans (hb4.mono HB3.out.size))
  have H1b := Lib.hid (H1a.out.to hb4 (Nat.le_refl _) hb4.size)
  have H2a := Lib.hid (H2.out.to hb4 (Nat.le_refl _) hb4.size)
  clear hH3 hb4 H1a H2
  go_wp2_with fail
  refine (ROVER_any ng2 ng3 A2 A3 D2 D3 n2 c2 d2 e2 n3 c3 d3 e3 _ _ (by omega) (by omega) (by omega) (by omega) HNZ.out _ w4.heap.size (Nat.le_refl _) H2a H3).mono ?_
  rintro e w5 ⟨ng4, A4, n4, c4, D4, d4, e4, rfl, hH4, k4, m4, hb5⟩
  have H4 := Lib.hid hH4
  have HB5 := Lib.hid (HB4.out.trans (hb5.mono HB4.out.size))
  have H1c := Lib.hid (H1b.out.to hb5 (Nat.le_refl _) hb5.size)
  rw [HU9.out] at H4
  clear hH4 hb5 H1b H2a H3
  go_wp2_with fail
  refine (RPLUS_any ng1 ng4 A1 A4 D1 D4 n1 c1 d1 e1 n4 c4 d4 e4 _ _ (by omega) (by omega) (by omega) (by omega) _ w5.heap.size (Nat.le_refl _) H1c H4).mono ?_
  rintro e w6 ⟨ngS, AS, nS, cS, DS, dS, eS, rfl, hH5, k5, m5, hb6⟩
  have H5 := Lib.hid hH5
  have HB6 := Lib.hid (HB5.out.trans (hb6.mono HB5.out.size))
  clear hH5 hb6 H1c H4
  go_upto_region 5 with (fail)
  obtain ⟨W2, g11, hW2, hg11, HBS, HBW2, HSW2⟩ := rcell_new w6 43 #[.bool ngS, .slice AS nS cS, .slice DS dS eS]
  rw [← hW2, ← hg11]
  have HB7 := Lib.hid (HB6.out.trans (HBW2.out.mono HB6.out.size))
  have HS1 := Lib.hid (H5.out.to HBW2.out (Nat.le_refl _) HBW2.out.size)
  have HBL2 := Lib.hid ((HB7.out.block g9 (blk_lt HBL.out)).trans HBL.out)
  have HBA2 := Lib.hid (HBA.out.trans (HB7.out.mono HBA.out.size))
  have ht2 : Hid (TabAt W2) := ht.out.below HBA2.out
  clear hW2 hg11 HBW2 HSW2 H5 HB2 HB3 HB4 HB5 HB6 HB7 a0 a1 a2 a3 HBL HBA ht1
  obtain ⟨a0, a1, a2, a3, _⟩ := four_cells HBL2.out
  go_wp2_with fail
  refine (ROF_ok (Rt.tx HFB.out) _).mono ?_
  rintro e w7 ⟨ng6, A6, n6, c6, D6, d6, e6, rfl, hH6, k6, m6, hb7⟩
  have H6 := Lib.hid hH6
  have HB2 := Lib.hid hb7
  clear hH6 hb7
  go_wp2_with fail
  refine (RINT_any off (by omega) (by omega) _ (Lib.hid (ht2.out.below HB2.out))).mono ?_
  rintro e w8 ⟨ng7, A7, n7, c7, D7, d7, e7, rfl, hH7, k7, m7, hb8⟩
  have H7 := Lib.hid hH7
  have HB3 := Lib.hid (HB2.out.trans (hb8.mono HB2.out.size))
  have H6a := Lib.hid (H6.out.to hb8 (Nat.le_refl _) hb8.size)
  rw [HV9.out] at H7
  clear hH7 hb8 H6
  go_wp2_with fail
  refine (RPLUS_any ng6 ng7 A6 A7 D6 D7 n6 c6 d6 e6 n7 c7 d7 e7 _ _ (by omega) (by omega) (by omega) (by omega) _ w8.heap.size (Nat.le_refl _) H6a H7).mono ?_
  rintro e w9 ⟨ngT, AT, nT, cT, DT, dT, eT, rfl, hH8, k8, m8, hb9⟩
  have H8 := Lib.hid hH8
  have HB4 := Lib.hid (HB3.out.trans (hb9.mono HB3.out.size))
  clear hH8 hb9 H6a H7
  go_upto_region 6 with (fail)
  obtain ⟨W, g12, hW3, hg12, HBT, HBW3, HSW3⟩ := rcell_new w9 43 #[.bool ngT, .slice AT nT cT, .slice DT dT eT]
  rw [← hW3, ← hg12]
  have HB5 := Lib.hid (HB4.out.trans (HBW3.out.mono HB4.out.size))
  have HT0 := Lib.hid (H8.out.to HBW3.out (Nat.le_refl _) HBW3.out.size)
  have HS := Lib.hid (HS1.out.to HB5.out (Nat.le_refl _) HB5.out.size)
  have HBL := Lib.hid ((HB5.out.block g9 (blk_lt HBL2.out)).trans HBL2.out)
  have HBS' := Lib.hid ((HB5.out.block g11 (blk_lt HBS.out)).trans HBS.out)
  have HBA := Lib.hid (HBA2.out.trans (HB5.out.mono HBA2.out.size))
  have HTB : Hid (TabAt W) := ht.out.below HBA.out
  have hwW : w.heap.size ≤ W.heap.size := HBA.out.size
  have hhW : Hid (PrsAt W w.heap.size A n l) := hh.out.below HBA.out (Nat.le_refl _)
  clear hW3 hg12 HBW3 HSW3 H8 HB2 HB3 HB4 HB5 a0 a1 a2 a3 HBL2 HBA2 HS1 HBS ht2
  have HBS := HBS'
  clear HBS'
  obtain ⟨a0, a1, a2, a3, _⟩ := four_cells HBL.out
  obtain ⟨s0, s1, s2, _, _, _⟩ := r3_cells HBS.out
  obtain ⟨t0, t1, t2, _, _, _⟩ := r3_cells HBT.out
  refine wp_region_text 17 (fun x9 => x9.cell? ⟨g9, 0, none⟩ = some (.string (txN (fitA l))) ∧ x9.cell? ⟨g9, 1, none⟩ = some (.string (txD (fitA l))) ∧ x9.cell? ⟨g9, 2, none⟩ = some (.string (txN (fitB l))) ∧ x9.cell? ⟨g9, 3, none⟩ = some (.string (txD (fitB l))) ∧ x9.cell? ⟨g11, 0, none⟩ = some (.bool ngS) ∧ x9.cell? ⟨g11, 1, none⟩ = some (.slice AS nS cS) ∧ x9.cell? ⟨g11, 2, none⟩ = some (.slice DS dS eS) ∧ x9.cell? ⟨g12, 0, none⟩ = some (.bool ngT) ∧ x9.cell? ⟨g12, 1, none⟩ = some (.slice AT nT cT) ∧ x9.cell? ⟨g12, 2, none⟩ = some (.slice DT dT eT)) (by kernel_rfl) (by kernel_rfl) ?_
  obtain ⟨wc, hwc⟩ : ∃ x : World, x = W.drew := ⟨_, rfl⟩
  have hbn : Below W.heap.size W W.drew := (Below.refl _ _).drew
  have HS := Lib.hid (HS.out.to hbn (Nat.le_refl _) hbn.size)
  have HT0 := Lib.hid (HT0.out.to hbn (Nat.le_refl _) hbn.size)
  have HTB := Lib.hid (HTB.out.below hbn)
  clear hbn
  have HBc : Hid (Below W.heap.size W wc) := by show Below _ _ _; rw [hwc]; exact (Below.refl _ _).drew
  have hS : wc.cell? ⟨g9, 0, none⟩ = some (.string (txN (fitA l))) ∧ wc.cell? ⟨g9, 1, none⟩ = some (.string (txD (fitA l))) ∧ wc.cell? ⟨g9, 2, none⟩ = some (.string (txN (fitB l))) ∧ wc.cell? ⟨g9, 3, none⟩ = some (.string (txD (fitB l))) ∧ wc.cell? ⟨g11, 0, none⟩ = some (.bool ngS) ∧ wc.cell? ⟨g11, 1, none⟩ = some (.slice AS nS cS) ∧ wc.cell? ⟨g11, 2, none⟩ = some (.slice DS dS eS) ∧ wc.cell? ⟨g12, 0, none⟩ = some (.bool ngT) ∧ wc.cell? ⟨g12, 1, none⟩ = some (.slice AT nT cT) ∧ wc.cell? ⟨g12, 2, none⟩ = some (.slice DT dT eT) := by rw [hwc]; exact ⟨a0, a1, a2, a3, s0, s1, s2, t0, t1, t2⟩
  have hg_0 : g9 < wc.heap.size := by rw [hwc]; exact blk_lt HBL.out
  have hg_1 : g11 < wc.heap.size := by rw [hwc]; exact blk_lt HBS.out
  have hg_2 : g12 < wc.heap.size := by rw [hwc]; exact blk_lt HBT.out
  rw [← hwc] at HS HT0 HTB
  rw [← hwc]
  clear hwc
  refine HT.take (i := 0) (oi := _) (v := ?_) rfl (by kernel_rfl) (by kernel_rfl) (by decide) (fun _ _ _ h => h) (Or.inl ⟨by rfl, ?_⟩) hS ?_
  rotate_left
  · intro wz
    go_simp
    try with_reducible rfl
  simp only [List.getElem_toArray, List.getElem_cons_succ, List.getElem_cons_zero, Act.put, List.setIfInBounds_toArray, List.set_cons_zero, List.set_cons_succ]
  refine HT.take (i := 1) (oi := _) (v := ?_) rfl (by kernel_rfl) (by kernel_rfl) (by decide) (fun _ _ _ h => h) (Or.inl ⟨by rfl, ?_⟩) hS ?_
  rotate_left
  · intro wz
    go_simp
    try with_reducible rfl
  simp only [List.getElem_toArray, List.getElem_cons_succ, List.getElem_cons_zero, Act.put, List.setIfInBounds_toArray, List.set_cons_zero, List.set_cons_succ]
  refine HT.load (i := 2) (oi := _) (v := ?_) rfl (by kernel_rfl) (by kernel_rfl) (by decide) (fun _ _ _ h => h) (by kernel_rfl) (Or.inl ⟨by rfl, ?_⟩) hS ?_
  rotate_left
  · intro wz hwz
    try dsimp only at hwz
    go_simp
    try with_reducible rfl
  simp only [List.getElem_toArray, List.getElem_cons_succ, List.getElem_cons_zero, Act.put, List.setIfInBounds_toArray, List.set_cons_zero, List.set_cons_succ]
  refine HT.take (i := 4) (oi := _) (v := ?_) rfl (by kernel_rfl) (by kernel_rfl) (by decide) (fun _ _ _ h => h) (Or.inl ⟨by rfl, ?_⟩) hS ?_
  rotate_left
  · intro wz
    go_simp
    try with_reducible rfl
  simp only [List.getElem_toArray, List.getElem_cons_succ, List.getElem_cons_zero, Act.put, List.setIfInBounds_toArray, List.set_cons_zero, List.set_cons_succ]
  refine HT.load (i := 5) (oi := _) (v := ?_) rfl (by kernel_rfl) (by kernel_rfl) (by decide) (fun _ _ _ h => h) (by kernel_rfl) (Or.inl ⟨by rfl, ?_⟩) hS ?_
  rotate_left
  · intro wz hwz
    try dsimp only at hwz
    go_simp
    try with_reducible rfl
  simp only [List.getElem_toArray, List.getElem_cons_succ, List.getElem_cons_zero, Act.put, List.setIfInBounds_toArray, List.set_cons_zero, List.set_cons_succ]
  refine HT.take (i := 8) (oi := _) (v := ?_) rfl (by kernel_rfl) (by kernel_rfl) (by decide) (fun _ _ _ h => h) (Or.inl ⟨by rfl, ?_⟩) hS ?_
  rotate_left
  · intro wz
    go_simp
    try with_reducible rfl
  simp only [List.getElem_toArray, List.getElem_cons_succ, List.getElem_cons_zero, Act.put, List.setIfInBounds_toArray, List.set_cons_zero, List.set_cons_succ]
  refine HT.load (i := 9) (oi := _) (v := ?_) rfl (by kernel_rfl) (by kernel_rfl) (by decide) (fun _ _ _ h => h) (by kernel_rfl) (Or.inl ⟨by rfl, ?_⟩) hS ?_
  rotate_left
  · intro wz hwz
    try dsimp only at hwz
    go_simp
    try with_reducible rfl
  simp only [List.getElem_toArray, List.getElem_cons_succ, List.getElem_cons_zero, Act.put, List.setIfInBounds_toArray, List.set_cons_zero, List.set_cons_succ]
  refine HT.load (i := 10) (oi := _) (v := ?_) rfl (by kernel_rfl) (by kernel_rfl) (by decide) (fun _ _ _ h => h) (by kernel_rfl) (Or.inl ⟨by rfl, ?_⟩) hS ?_
  rotate_left
  · intro wz hwz
    try dsimp only at hwz
    go_simp
    try with_reducible rfl
  simp only [List.getElem_toArray, List.getElem_cons_succ, List.getElem_cons_zero, Act.put, List.setIfInBounds_toArray, List.set_cons_zero, List.set_cons_succ]
  refine HT.one (i := 3) (o := _) rfl (by kernel_rfl) (by decide) (by rfl) ?_
  intro K hK
  go_simp
  refine (ROF_ok (Rt.tx HFA.out) _).mono ?_
  rintro e wn ⟨ng1, A1, n1, c1, D1, d1, e1, rfl, hH1, k1, m1, hbn⟩
  have H1 := Lib.hid hH1
  clear hH1
  replace HS := Lib.hid (HS.out.to hbn (Nat.le_refl _) hbn.size)
  replace HT0 := Lib.hid (HT0.out.to hbn (Nat.le_refl _) hbn.size)
  replace HTB := Lib.hid (HTB.out.below hbn)
  have HBn := Lib.hid (HBc.out.trans (hbn.mono HBc.out.size))
  have hSn : wn.cell? ⟨g9, 0, none⟩ = some (.string (txN (fitA l))) ∧ wn.cell? ⟨g9, 1, none⟩ = some (.string (txD (fitA l))) ∧ wn.cell? ⟨g9, 2, none⟩ = some (.string (txN (fitB l))) ∧ wn.cell? ⟨g9, 3, none⟩ = some (.string (txD (fitB l))) ∧ wn.cell? ⟨g11, 0, none⟩ = some (.bool ngS) ∧ wn.cell? ⟨g11, 1, none⟩ = some (.slice AS nS cS) ∧ wn.cell? ⟨g11, 2, none⟩ = some (.slice DS dS eS) ∧ wn.cell? ⟨g12, 0, none⟩ = some (.bool ngT) ∧ wn.cell? ⟨g12, 1, none⟩ = some (.slice AT nT cT) ∧ wn.cell? ⟨g12, 2, none⟩ = some (.slice DT dT eT) := ⟨(hbn.cell (p := ⟨g9, 0, none⟩) hg_0).trans hS.1, (hbn.cell (p := ⟨g9, 1, none⟩) hg_0).trans hS.2.1, (hbn.cell (p := ⟨g9, 2, none⟩) hg_0).trans hS.2.2.1, (hbn.cell (p := ⟨g9, 3, none⟩) hg_0).trans hS.2.2.2.1, (hbn.cell (p := ⟨g11, 0, none⟩) hg_1).trans hS.2.2.2.2.1, (hbn.cell (p := ⟨g11, 1, none⟩) hg_1).trans hS.2.2.2.2.2.1, (hbn.cell (p := ⟨g11, 2, none⟩) hg_1).trans hS.2.2.2.2.2.2.1, (hbn.cell (p := ⟨g12, 0, none⟩) hg_2).trans hS.2.2.2.2.2.2.2.1, (hbn.cell (p := ⟨g12, 1, none⟩) hg_2).trans hS.2.2.2.2.2.2.2.2.1, (hbn.cell (p := ⟨g12, 2, none⟩) hg_2).trans hS.2.2.2.2.2.2.2.2.2⟩
  have hgn_0 := Nat.lt_of_lt_of_le hg_0 hbn.size
  have hgn_1 := Nat.lt_of_lt_of_le hg_1 hbn.size
  have hgn_2 := Nat.lt_of_lt_of_le hg_2 hbn.size
  refine hK.out _ _ hSn ?_
  clear hK K hS HBc hg_0 hg_1 hg_2
  try simp only [List.getElem_toArray, List.getElem_cons_succ, List.getElem_cons_zero, Act.put, List.setIfInBounds_toArray, List.set_cons_zero, List.set_cons_succ]
  have hS := hSn
  have HBc := HBn
  have hg_0 := hgn_0
  have hg_1 := hgn_1
  have hg_2 := hgn_2
  clear hSn HBn hbn hgn_0 hgn_1 hgn_2
  obtain ⟨wc, rfl⟩ : ∃ x : World, x = wn := ⟨_, rfl⟩
  refine HT.one (i := 6) (o := _) rfl (by kernel_rfl) (by decide) (by rfl) ?_
  intro K hK
  go_simp
  refine (ROF_ok (Rt.tx HFB.out) _).mono ?_
  rintro e wn ⟨ng2, A2, n2, c2, D2, d2, e2, rfl, hH2, k2, m2, hbn⟩
  have H2 := Lib.hid hH2
  clear hH2
  replace HS := Lib.hid (HS.out.to hbn (Nat.le_refl _) hbn.size)
  replace HT0 := Lib.hid (HT0.out.to hbn (Nat.le_refl _) hbn.size)
  replace HTB := Lib.hid (HTB.out.below hbn)
  replace H1 := Lib.hid (H1.out.to hbn (Nat.le_refl _) hbn.size)
  have HBn := Lib.hid (HBc.out.trans (hbn.mono HBc.out.size))
  have hSn : wn.cell? ⟨g9, 0, none⟩ = some (.string (txN (fitA l))) ∧ wn.cell? ⟨g9, 1, none⟩ = some (.string (txD (fitA l))) ∧ wn.cell? ⟨g9, 2, none⟩ = some (.string (txN (fitB l))) ∧ wn.cell? ⟨g9, 3, none⟩ = some (.string (txD (fitB l))) ∧ wn.cell? ⟨g11, 0, none⟩ = some (.bool ngS) ∧ wn.cell? ⟨g11, 1, none⟩ = some (.slice AS nS cS) ∧ wn.cell? ⟨g11, 2, none⟩ = some (.slice DS dS eS) ∧ wn.cell? ⟨g12, 0, none⟩ = some (.bool ngT) ∧ wn.cell? ⟨g12, 1, none⟩ = some (.slice AT nT cT) ∧ wn.cell? ⟨g12, 2, none⟩ = some (.slice DT dT eT) := ⟨(hbn.cell (p := ⟨g9, 0, none⟩) hg_0).trans hS.1, (hbn.cell (p := ⟨g9, 1, none⟩) hg_0).trans hS.2.1, (hbn.cell (p := ⟨g9, 2, none⟩) hg_0).trans hS.2.2.1, (hbn.cell (p := ⟨g9, 3, none⟩) hg_0).trans hS.2.2.2.1, (hbn.cell (p := ⟨g11, 0, none⟩) hg_1).trans hS.2.2.2.2.1, (hbn.cell (p := ⟨g11, 1, none⟩) hg_1).trans hS.2.2.2.2.2.1, (hbn.cell (p := ⟨g11, 2, none⟩) hg_1).trans hS.2.2.2.2.2.2.1, (hbn.cell (p := ⟨g12, 0, none⟩) hg_2).trans hS.2.2.2.2.2.2.2.1, (hbn.cell (p := ⟨g12, 1, none⟩) hg_2).trans hS.2.2.2.2.2.2.2.2.1, (hbn.cell (p := ⟨g12, 2, none⟩) hg_2).trans hS.2.2.2.2.2.2.2.2.2⟩
  have hgn_0 := Nat.lt_of_lt_of_le hg_0 hbn.size
  have hgn_1 := Nat.lt_of_lt_of_le hg_1 hbn.size
  have hgn_2 := Nat.lt_of_lt_of_le hg_2 hbn.size
  refine hK.out _ _ hSn ?_
  clear hK K hS HBc hg_0 hg_1 hg_2
  try simp only [List.getElem_toArray, List.getElem_cons_succ, List.getElem_cons_zero, Act.put, List.setIfInBounds_toArray, List.set_cons_zero, List.set_cons_succ]
  have hS := hSn
  have HBc := HBn
  have hg_0 := hgn_0
  have hg_1 := hgn_1
  have hg_2 := hgn_2
  clear hSn HBn hbn hgn_0 hgn_1 hgn_2
  obtain ⟨wc, rfl⟩ : ∃ x : World, x = wn := ⟨_, rfl⟩
  refine HT.one (i := 7) (o := _) rfl (by kernel_rfl) (by decide) (by rfl) ?_
  intro K hK
  go_simp
  refine (SQUARES_any A n c l HCK ng1 ng2 A1 A2 D1 D2 n1 c1 d1 e1 n2 c2 d2 e2 (fitA l) (fitB l) HSA.out HSB.out _ HTB w.heap.size (Nat.le_trans hwW HBc.out.size) (Lib.hid (hhW.out.below HBc.out hwW)) H1 H2).mono ?_
  rintro e wn ⟨ng3, A3, n3, c3, D3, d3, e3, rfl, hH3, k3, m3, hbn⟩
  have H3 := Lib.hid hH3
  clear hH3
  clear H1 H2
  replace HS := Lib.hid (HS.out.to hbn (Nat.le_refl _) hbn.size)
  replace HT0 := Lib.hid (HT0.out.to hbn (Nat.le_refl _) hbn.size)
  replace HTB := Lib.hid (HTB.out.below hbn)
  have HBn := Lib.hid (HBc.out.trans (hbn.mono HBc.out.size))
  have hSn : wn.cell? ⟨g9, 0, none⟩ = some (.string (txN (fitA l))) ∧ wn.cell? ⟨g9, 1, none⟩ = some (.string (txD (fitA l))) ∧ wn.cell? ⟨g9, 2, none⟩ = some (.string (txN (fitB l))) ∧ wn.cell? ⟨g9, 3, none⟩ = some (.string (txD (fitB l))) ∧ wn.cell? ⟨g11, 0, none⟩ = some (.bool ngS) ∧ wn.cell? ⟨g11, 1, none⟩ = some (.slice AS nS cS) ∧ wn.cell? ⟨g11, 2, none⟩ = some (.slice DS dS eS) ∧ wn.cell? ⟨g12, 0, none⟩ = some (.bool ngT) ∧ wn.cell? ⟨g12, 1, none⟩ = some (.slice AT nT cT) ∧ wn.cell? ⟨g12, 2, none⟩ = some (.slice DT dT eT) := ⟨(hbn.cell (p := ⟨g9, 0, none⟩) hg_0).trans hS.1, (hbn.cell (p := ⟨g9, 1, none⟩) hg_0).trans hS.2.1, (hbn.cell (p := ⟨g9, 2, none⟩) hg_0).trans hS.2.2.1, (hbn.cell (p := ⟨g9, 3, none⟩) hg_0).trans hS.2.2.2.1, (hbn.cell (p := ⟨g11, 0, none⟩) hg_1).trans hS.2.2.2.2.1, (hbn.cell (p := ⟨g11, 1, none⟩) hg_1).trans hS.2.2.2.2.2.1, (hbn.cell (p := ⟨g11, 2, none⟩) hg_1).trans hS.2.2.2.2.2.2.1, (hbn.cell (p := ⟨g12, 0, none⟩) hg_2).trans hS.2.2.2.2.2.2.2.1, (hbn.cell (p := ⟨g12, 1, none⟩) hg_2).trans hS.2.2.2.2.2.2.2.2.1, (hbn.cell (p := ⟨g12, 2, none⟩) hg_2).trans hS.2.2.2.2.2.2.2.2.2⟩
  have hgn_0 := Nat.lt_of_lt_of_le hg_0 hbn.size
  have hgn_1 := Nat.lt_of_lt_of_le hg_1 hbn.size
  have hgn_2 := Nat.lt_of_lt_of_le hg_2 hbn.size
  refine hK.out _ _ hSn ?_
  clear hK K hS HBc hg_0 hg_1 hg_2
  try simp only [List.getElem_toArray, List.getElem_cons_succ, List.getElem_cons_zero, Act.put, List.setIfInBounds_toArray, List.set_cons_zero, List.set_cons_succ]
  have hS := hSn
  have HBc := HBn
  have hg_0 := hgn_0
  have hg_1 := hgn_1
  have hg_2 := hgn_2
  clear hSn HBn hbn hgn_0 hgn_1 hgn_2
  obtain ⟨wc, rfl⟩ : ∃ x : World, x = wn := ⟨_, rfl⟩
  refine HT.one (i := 11) (o := _) rfl (by kernel_rfl) (by decide) (by rfl) ?_
  intro K hK
  go_simp
  refine (SQUARES_any A n c l HCK ngS ngT AS AT DS DT nS cS dS eS nT cT dT eT (fitA l + U9) (fitB l + V9) HSC.out HSD.out _ HTB w.heap.size (Nat.le_trans hwW HBc.out.size) (Lib.hid (hhW.out.below HBc.out hwW)) HS HT0).mono ?_
  rintro e wn ⟨ng4, A4, n4, c4, D4, d4, e4, rfl, hH4, k4, m4, hbn⟩
  have H4 := Lib.hid hH4
  clear hH4
  clear HS HT0 HTB
  replace H3 := Lib.hid (H3.out.to hbn (Nat.le_refl _) hbn.size)
  have HBn := Lib.hid (HBc.out.trans (hbn.mono HBc.out.size))
  have hSn : wn.cell? ⟨g9, 0, none⟩ = some (.string (txN (fitA l))) ∧ wn.cell? ⟨g9, 1, none⟩ = some (.string (txD (fitA l))) ∧ wn.cell? ⟨g9, 2, none⟩ = some (.string (txN (fitB l))) ∧ wn.cell? ⟨g9, 3, none⟩ = some (.string (txD (fitB l))) ∧ wn.cell? ⟨g11, 0, none⟩ = some (.bool ngS) ∧ wn.cell? ⟨g11, 1, none⟩ = some (.slice AS nS cS) ∧ wn.cell? ⟨g11, 2, none⟩ = some (.slice DS dS eS) ∧ wn.cell? ⟨g12, 0, none⟩ = some (.bool ngT) ∧ wn.cell? ⟨g12, 1, none⟩ = some (.slice AT nT cT) ∧ wn.cell? ⟨g12, 2, none⟩ = some (.slice DT dT eT) := ⟨(hbn.cell (p := ⟨g9, 0, none⟩) hg_0).trans hS.1, (hbn.cell (p := ⟨g9, 1, none⟩) hg_0).trans hS.2.1, (hbn.cell (p := ⟨g9, 2, none⟩) hg_0).trans hS.2.2.1, (hbn.cell (p := ⟨g9, 3, none⟩) hg_0).trans hS.2.2.2.1, (hbn.cell (p := ⟨g11, 0, none⟩) hg_1).trans hS.2.2.2.2.1, (hbn.cell (p := ⟨g11, 1, none⟩) hg_1).trans hS.2.2.2.2.2.1, (hbn.cell (p := ⟨g11, 2, none⟩) hg_1).trans hS.2.2.2.2.2.2.1, (hbn.cell (p := ⟨g12, 0, none⟩) hg_2).trans hS.2.2.2.2.2.2.2.1, (hbn.cell (p := ⟨g12, 1, none⟩) hg_2).trans hS.2.2.2.2.2.2.2.2.1, (hbn.cell (p := ⟨g12, 2, none⟩) hg_2).trans hS.2.2.2.2.2.2.2.2.2⟩
  have hgn_0 := Nat.lt_of_lt_of_le hg_0 hbn.size
  have hgn_1 := Nat.lt_of_lt_of_le hg_1 hbn.size
  have hgn_2 := Nat.lt_of_lt_of_le hg_2 hbn.size
  refine hK.out _ _ hSn ?_
  clear hK K hS HBc hg_0 hg_1 hg_2
  try simp only [List.getElem_toArray, List.getElem_cons_succ, List.getElem_cons_zero, Act.put, List.setIfInBounds_toArray, List.set_cons_zero, List.set_cons_succ]
  have hS := hSn
  have HBc := HBn
  have hg_0 := hgn_0
  have hg_1 := hgn_1
  have hg_2 := hgn_2
  clear hSn HBn hbn hgn_0 hgn_1 hgn_2
  obtain ⟨wc, rfl⟩ : ∃ x : World, x = wn := ⟨_, rfl⟩
  refine HT.one (i := 12) (o := _) rfl (by kernel_rfl) (by decide) (by rfl) ?_
  intro K hK
  go_simp
  refine (RCOMPARE_any ng3 ng4 A3 A4 D3 D4 n3 c3 d3 e3 n4 c4 d4 e4 _ _ (by omega) (by omega) (by omega) (by omega) _ wc.heap.size (Nat.le_refl _) H3 H4).mono ?_
  rintro e wn ⟨rfl, hbn⟩
  clear H3 H4
  have HBn := Lib.hid (HBc.out.trans (hbn.mono HBc.out.size))
  have hSn : wn.cell? ⟨g9, 0, none⟩ = some (.string (txN (fitA l))) ∧ wn.cell? ⟨g9, 1, none⟩ = some (.string (txD (fitA l))) ∧ wn.cell? ⟨g9, 2, none⟩ = some (.string (txN (fitB l))) ∧ wn.cell? ⟨g9, 3, none⟩ = some (.string (txD (fitB l))) ∧ wn.cell? ⟨g11, 0, none⟩ = some (.bool ngS) ∧ wn.cell? ⟨g11, 1, none⟩ = some (.slice AS nS cS) ∧ wn.cell? ⟨g11, 2, none⟩ = some (.slice DS dS eS) ∧ wn.cell? ⟨g12, 0, none⟩ = some (.bool ngT) ∧ wn.cell? ⟨g12, 1, none⟩ = some (.slice AT nT cT) ∧ wn.cell? ⟨g12, 2, none⟩ = some (.slice DT dT eT) := ⟨(hbn.cell (p := ⟨g9, 0, none⟩) hg_0).trans hS.1, (hbn.cell (p := ⟨g9, 1, none⟩) hg_0).trans hS.2.1, (hbn.cell (p := ⟨g9, 2, none⟩) hg_0).trans hS.2.2.1, (hbn.cell (p := ⟨g9, 3, none⟩) hg_0).trans hS.2.2.2.1, (hbn.cell (p := ⟨g11, 0, none⟩) hg_1).trans hS.2.2.2.2.1, (hbn.cell (p := ⟨g11, 1, none⟩) hg_1).trans hS.2.2.2.2.2.1, (hbn.cell (p := ⟨g11, 2, none⟩) hg_1).trans hS.2.2.2.2.2.2.1, (hbn.cell (p := ⟨g12, 0, none⟩) hg_2).trans hS.2.2.2.2.2.2.2.1, (hbn.cell (p := ⟨g12, 1, none⟩) hg_2).trans hS.2.2.2.2.2.2.2.2.1, (hbn.cell (p := ⟨g12, 2, none⟩) hg_2).trans hS.2.2.2.2.2.2.2.2.2⟩
  have hgn_0 := Nat.lt_of_lt_of_le hg_0 hbn.size
  have hgn_1 := Nat.lt_of_lt_of_le hg_1 hbn.size
  have hgn_2 := Nat.lt_of_lt_of_le hg_2 hbn.size
  refine hK.out _ _ hSn ?_
  clear hK K hS HBc hg_0 hg_1 hg_2
  try simp only [List.getElem_toArray, List.getElem_cons_succ, List.getElem_cons_zero, Act.put, List.setIfInBounds_toArray, List.set_cons_zero, List.set_cons_succ]
  have hS := hSn
  have HBc := HBn
  have hg_0 := hgn_0
  have hg_1 := hgn_1
  have hg_2 := hgn_2
  clear hSn HBn hbn hgn_0 hgn_1 hgn_2
  obtain ⟨wc, rfl⟩ : ∃ x : World, x = wn := ⟨_, rfl⟩
  refine HT.take (i := 13) (oi := _) (v := .bool true) rfl (by kernel_rfl) (by kernel_rfl) (by decide) (fun _ _ _ h => h) (Or.inl ⟨by rfl, ?_⟩) hS ?_
  · intro wz
    first | exact HCP.out | (go_simp; done) | (go_simp; exact HCP.out) | (go_simp; simp only [HCP.out]; rfl) | (go_simp; simp only [HCP.out])
  simp only [List.getElem_toArray, List.getElem_cons_succ, List.getElem_cons_zero, Act.put, List.setIfInBounds_toArray, List.set_cons_zero, List.set_cons_succ]
  refine HT.take (i := 14) (oi := _) (v := ?_) rfl (by kernel_rfl) (by kernel_rfl) (by decide) (fun _ _ _ h => h) (Or.inl ⟨by rfl, ?_⟩) hS ?_
  rotate_left
  · intro wz
    go_simp
    try with_reducible rfl
  simp only [List.getElem_toArray, List.getElem_cons_succ, List.getElem_cons_zero, Act.put, List.setIfInBounds_toArray, List.set_cons_zero, List.set_cons_succ]
  refine HT.one (i := 15) (o := _) rfl (by kernel_rfl) (by decide) (by rfl) ?_
  intro K hK
  go_simp
  refine (AWAKE_any _).mono ?_
  rintro e wn ⟨rfl, hbn⟩
  have HBn := Lib.hid (HBc.out.trans (hbn.mono HBc.out.size))
  have hSn : wn.cell? ⟨g9, 0, none⟩ = some (.string (txN (fitA l))) ∧ wn.cell? ⟨g9, 1, none⟩ = some (.string (txD (fitA l))) ∧ wn.cell? ⟨g9, 2, none⟩ = some (.string (txN (fitB l))) ∧ wn.cell? ⟨g9, 3, none⟩ = some (.string (txD (fitB l))) ∧ wn.cell? ⟨g11, 0, none⟩ = some (.bool ngS) ∧ wn.cell? ⟨g11, 1, none⟩ = some (.slice AS nS cS) ∧ wn.cell? ⟨g11, 2, none⟩ = some (.slice DS dS eS) ∧ wn.cell? ⟨g12, 0, none⟩ = some (.bool ngT) ∧ wn.cell? ⟨g12, 1, none⟩ = some (.slice AT nT cT) ∧ wn.cell? ⟨g12, 2, none⟩ = some (.slice DT dT eT) := ⟨(hbn.cell (p := ⟨g9, 0, none⟩) hg_0).trans hS.1, (hbn.cell (p := ⟨g9, 1, none⟩) hg_0).trans hS.2.1, (hbn.cell (p := ⟨g9, 2, none⟩) hg_0).trans hS.2.2.1, (hbn.cell (p := ⟨g9, 3, none⟩) hg_0).trans hS.2.2.2.1, (hbn.cell (p := ⟨g11, 0, none⟩) hg_1).trans hS.2.2.2.2.1, (hbn.cell (p := ⟨g11, 1, none⟩) hg_1).trans hS.2.2.2.2.2.1, (hbn.cell (p := ⟨g11, 2, none⟩) hg_1).trans hS.2.2.2.2.2.2.1, (hbn.cell (p := ⟨g12, 0, none⟩) hg_2).trans hS.2.2.2.2.2.2.2.1, (hbn.cell (p := ⟨g12, 1, none⟩) hg_2).trans hS.2.2.2.2.2.2.2.2.1, (hbn.cell (p := ⟨g12, 2, none⟩) hg_2).trans hS.2.2.2.2.2.2.2.2.2⟩
  have hgn_0 := Nat.lt_of_lt_of_le hg_0 hbn.size
  have hgn_1 := Nat.lt_of_lt_of_le hg_1 hbn.size
  have hgn_2 := Nat.lt_of_lt_of_le hg_2 hbn.size
  refine hK.out _ _ hSn ?_
  clear hK K hS HBc hg_0 hg_1 hg_2
  try simp only [List.getElem_toArray, List.getElem_cons_succ, List.getElem_cons_zero, Act.put, List.setIfInBounds_toArray, List.set_cons_zero, List.set_cons_succ]
  have hS := hSn
  have HBc := HBn
  have hg_0 := hgn_0
  have hg_1 := hgn_1
  have hg_2 := hgn_2
  clear hSn HBn hbn hgn_0 hgn_1 hgn_2
  obtain ⟨wc, rfl⟩ : ∃ x : World, x = wn := ⟨_, rfl⟩
  refine HT.take (i := 16) (oi := _) (v := ?_) rfl (by kernel_rfl) (by kernel_rfl) (by decide) (fun _ _ _ h => h) (Or.inl ⟨by rfl, ?_⟩) hS ?_
  rotate_left
  · intro wz
    go_simp
    try with_reducible rfl
  simp only [List.getElem_toArray, List.getElem_cons_succ, List.getElem_cons_zero, Act.put, List.setIfInBounds_toArray, List.set_cons_zero, List.set_cons_succ]
  refine HT.done (by kernel_rfl) ?_
  clear hS
  simp only [List.drop_succ_cons, List.drop_zero]
  go_wp2_with fail
  go_ret
  exact ⟨rfl, HBA.out.trans (HBc.out.mono HBA.out.size)⟩
end Go.Proofs.YthgjgiccoobcgaaDoor
